/- clock.Decimal: the walk. -/
import Derived.Test.YtcjdmffflepplaaGreatDoorRw
import Derived.Test.YtcjdmffflepplaaGreatDoorYp
set_option linter.unusedSimpArgs false
set_option linter.unusedVariables false
namespace Go.Proofs.YtcjdmffflepplaaGreatDoor
open Go.RowKit Go.Dw Go.Joins
theorem pad_size {v : ByteArray} {l : List UInt8} (h : v.data.toList = l) (p : Nat) (hp : p ≤ 30) (hv : v.size ≤ 100000000) : (padZ l p).length = max v.size (p + 1) := by
  unfold padZ
  rw [List.length_append, List.length_replicate, ← h, len_data]
  omega
theorem scale_at {w : World} {B : Nat} {neg : Bool} {A D : Option Addr} {n c m d p : Nat} (h : IntAt w B neg A n c ((10 ^ p : Nat) : Int)) (h1 : NumAt .u32 85 4294967296 w B D m d 1) : RatAt w B neg A n c D m d (scQ p) := ⟨h, h1⟩
theorem five_keep {W w1 : World} {a b : Nat} {v0 v1 v2 v3 v4 : Value} (h : W.cell? ⟨a, 0, none⟩ = some v0 ∧ W.cell? ⟨a, 1, none⟩ = some v1 ∧ W.cell? ⟨b, 0, none⟩ = some v2 ∧ W.cell? ⟨b, 1, none⟩ = some v3 ∧ W.cell? ⟨b, 2, none⟩ = some v4)
    (hb : Below W.heap.size W w1) (ha : a < W.heap.size) (hbb : b < W.heap.size) : w1.cell? ⟨a, 0, none⟩ = some v0 ∧ w1.cell? ⟨a, 1, none⟩ = some v1 ∧ w1.cell? ⟨b, 0, none⟩ = some v2 ∧ w1.cell? ⟨b, 1, none⟩ = some v3 ∧ w1.cell? ⟨b, 2, none⟩ = some v4 :=
  ⟨(hb.cell (p := ⟨a, 0, none⟩) ha).trans h.1, (hb.cell (p := ⟨a, 1, none⟩) ha).trans h.2.1, (hb.cell (p := ⟨b, 0, none⟩) hbb).trans h.2.2.1, (hb.cell (p := ⟨b, 1, none⟩) hbb).trans h.2.2.2.1, (hb.cell (p := ⟨b, 2, none⟩) hbb).trans h.2.2.2.2⟩
theorem heap_two_set {w : World} {g : Nat} {o0 o1 v0 v1 : Value} {T : TypeId} (h : w.heap[g]? = some (.cells #[o0, o1] T (0, 0))) : ((w.setCell ⟨g, 0, none⟩ v0).setCell ⟨g, 1, none⟩ v1).heap[g]? = some (.cells #[v0, v1] T (0, 0)) := by
  simp only [World.setCell, Array.getElem?_modify, h]
  simp
set_option maxRecDepth 100000 in
set_option maxHeartbeats 4000000 in
theorem DECIMAL_any (s t : ByteArray) (places : Int) (hs : s.size ≤ maxLen) (ht : t.size ≤ maxLen) (w : World) :
    Calls Tryz.prog 9 #[.agg #[.string s, .string t], .int .i64 places] w fun e w' => e = .returned (.tuple #[.string (decS s t places).1, .int .i64 (decS s t places).2]) ∧ Below w.heap.size w w' := by
  obtain ⟨W, gx, hW, hgx, HHW, HBW, HSW⟩ := cell_new w 28 #[.string s, .string t]
  have HGX := Lib.hid hgx
  obtain ⟨x0, x1, _, _⟩ := two_cells HHW.out
  have hgw := blk_lt HHW.out
  obtain ⟨k, hk⟩ : ∃ k, chkQ s t = k := ⟨_, rfl⟩
  have HK := Lib.hid hk
  clear hk
  go_enter Tryz.func9, Tryz.ntmps9
  go_upto_region 1 with (fail)
  rw [← hW, ← hgx]
  clear hW hgx
  go_wp2_with fail
  refine (CHECKRATIO_any s t hs ht _).mono ?_
  rintro e w0 ⟨rfl, hb0⟩
  rw [HK.out]
  obtain ⟨x0, x1⟩ := two_keep (And.intro x0 x1) hb0 (by dsimp only; omega) (by dsimp only; omega)
  have HB0 := Lib.hid (HBW.out.trans (hb0.mono HBW.out.size))
  have hgw := Nat.lt_of_lt_of_le hgw hb0.size
  clear hb0 HHW HSW
  by_cases h0 : k = 0
  · subst h0
    by_cases hr : places < 0 ∨ 30 < places
    · have HV : Hid (decS s t places = (noB, 1)) := by show _ = _; unfold decS; rw [if_pos HK.out, if_pos hr]
      by_cases hn : places < 0
      · clear hr
        go_wp2_with fail
        go_ret2
        exact ⟨by rw [HV.out]; rfl, HB0.out⟩
      · have hn2 : 30 < places := by omega
        clear hr
        go_wp2_with fail
        go_ret2
        exact ⟨by rw [HV.out]; rfl, HB0.out⟩
    · obtain ⟨p, rfl⟩ : ∃ p : Nat, places = (p : Int) := ⟨places.toNat, by omega⟩
      have hp : p ≤ 30 := by omega
      have hp1 : ¬ (p : Int) < 0 := by omega
      have hp2 : ¬ (30 : Int) < (p : Int) := by omega
      have HR1 := Lib.hid (Rt.of HK.out)
      obtain ⟨q, hq⟩ : ∃ q, valQ s t = q := ⟨_, rfl⟩
      rw [hq] at HR1
      have HV : Hid (decS s t p = (⟨(decT q p).toArray⟩, 0)) := by show _ = _; unfold decS; rw [if_pos HK.out, if_neg hr, hq, Int.toNat_natCast]
      clear hq HK hr
      go_wp2_with fail
      refine (REPEAT_any p (by omega) _).mono ?_
      rintro e w1 ⟨⟨z1, rfl, hz1⟩, hb1⟩
      have HZ1 := Lib.hid hz1
      have hz1s : z1.size = p := by rw [← len_data, hz1, List.length_replicate]
      obtain ⟨x0, x1⟩ := two_keep (And.intro x0 x1) hb1 (by dsimp only; omega) (by dsimp only; omega)
      have HB1 := Lib.hid (HB0.out.trans (hb1.mono HB0.out.size))
      have hgw := Nat.lt_of_lt_of_le hgw hb1.size
      clear hb1 hz1
      have h49 : (⟨#[49]⟩ : ByteArray).size = 1 := rfl
      obtain ⟨sc, hsc⟩ : ∃ sc : ByteArray, sc = ⟨#[49]⟩ ++ z1 := ⟨_, rfl⟩
      have HSC : Hid (sc.data.toList = 49 :: List.replicate p 48) := by show _ = _; rw [hsc, ← HZ1.out]; simp [ByteArray.data_append]
      have hscs : sc.size = p + 1 := by rw [← len_data, HSC.out]; simp
      have HSB : Hid (bodyT sc = 49 :: List.replicate p 48) := by
        show _ = _; unfold bodyT; rw [HSC.out]; exact prefix_false (good_noneg (one_all p))
      have HSP : Hid (parseZ sc = ((10 ^ p : Nat) : Int)) := by
        show _ = _; unfold parseZ
        rw [HSB.out, decV_one, show negT sc = false by unfold negT; rw [HSC.out]; exact good_noneg (one_all p)]
        rfl
      go_wp2_with fail
      rw [← hsc]
      refine (IPARSE_any sc (by rw [HSB.out]; exact one_all p) (by omega) _).mono ?_
      rintro e w2 ⟨ng2, A2, n2, c2, rfl, h2, k2, hb2⟩
      rw [HSP.out] at h2
      have H2 := Lib.hid h2
      obtain ⟨x0, x1⟩ := two_keep (And.intro x0 x1) hb2 (by dsimp only; omega) (by dsimp only; omega)
      have HB2 := Lib.hid (HB1.out.trans (hb2.mono HB1.out.size))
      have hgw := Nat.lt_of_lt_of_le hgw hb2.size
      clear h2 hb2 hsc
      go_wp2_with fail
      refine (NONE_any _).mono ?_
      rintro e w3 ⟨A3, n3, c3, rfl, h3, k3, hb3⟩
      have HSCL := Lib.hid (scale_at (p := p) (H2.out.to hb3 (Nat.le_refl _) hb3.size) h3)
      obtain ⟨x0, x1⟩ := two_keep (And.intro x0 x1) hb3 (by dsimp only; omega) (by dsimp only; omega)
      have HB3 := Lib.hid (HB2.out.trans (hb3.mono HB2.out.size))
      have hgw := Nat.lt_of_lt_of_le hgw hb3.size
      clear h3 hb3 H2
      go_upto_region 7 with (fail)
      obtain ⟨W4, gq, hW, hgq, HHQ, HBQ, HSQ⟩ := cell_new w3 47 #[.bool ng2, .slice A2 n2 c2, .slice A3 n3 c3]
      rw [← hW, ← hgq]
      obtain ⟨y0, y1, y2, _, _, _⟩ := three_cells HHQ.out
      have hgqw := blk_lt HHQ.out
      obtain ⟨x0, x1⟩ := two_keep (And.intro x0 x1) HBQ.out (by dsimp only; omega) (by dsimp only; omega)
      have HB4 := Lib.hid (HB3.out.trans (HBQ.out.mono HB3.out.size))
      have hgw := Nat.lt_of_lt_of_le hgw HBQ.out.size
      have HSC4 := Lib.hid (HSCL.out.to HBQ.out (Nat.le_refl _) HBQ.out.size)
      clear hW hgq HHQ HSCL HSQ HBQ
      go_cut [8] (fun v8 wx => ∃ (ga : Nat) (ng : Bool) (A : Option Addr) (n c : Nat), v8 = .pointer (some ⟨ga, 0, none⟩) ∧ n ≤ 100000 ∧ Hid (wx.heap[ga]? = some (.cells #[.bool ng, .slice A n c] 44 (0, 0))) ∧ Hid (IntAt wx wx.heap.size ng A n c (nearQ (q * scQ p))) ∧ Hid (Below w.heap.size w wx))
      case first =>
        refine wp_region_text 6 (fun x => x.cell? ⟨gx, 0, none⟩ = some (.string s) ∧ x.cell? ⟨gx, 1, none⟩ = some (.string t) ∧ x.cell? ⟨gq, 0, none⟩ = some (.bool ng2) ∧ x.cell? ⟨gq, 1, none⟩ = some (.slice A2 n2 c2) ∧ x.cell? ⟨gq, 2, none⟩ = some (.slice A3 n3 c3)) (by kernel_rfl) (by kernel_rfl) ?_
        obtain ⟨wc, hwc⟩ : ∃ x : World, x = W4.drew := ⟨_, rfl⟩
        have HBc : Hid (Below W4.heap.size W4 wc) := by show Below _ _ _; rw [hwc]; exact (Below.refl _ _).drew
        have hS : wc.cell? ⟨gx, 0, none⟩ = some (.string s) ∧ wc.cell? ⟨gx, 1, none⟩ = some (.string t) ∧ wc.cell? ⟨gq, 0, none⟩ = some (.bool ng2) ∧ wc.cell? ⟨gq, 1, none⟩ = some (.slice A2 n2 c2) ∧ wc.cell? ⟨gq, 2, none⟩ = some (.slice A3 n3 c3) := by rw [hwc]; exact ⟨x0, x1, y0, y1, y2⟩
        have hgc1 : gx < wc.heap.size := by rw [hwc]; exact hgw
        have hgc2 : gq < wc.heap.size := by rw [hwc]; exact hgqw
        rw [← hwc]
        clear hwc x0 x1 y0 y1 y2
        refine HT.load (i := 0) (oi := _) (v := ?_) rfl (by kernel_rfl) (by kernel_rfl) (by decide) (fun _ _ _ h => h) (by kernel_rfl) (Or.inl ⟨by rfl, ?_⟩) hS ?_
        rotate_left
        · intro wz hwz
          try dsimp only at hwz
          go_simp
          try with_reducible rfl
        simp only [List.getElem_toArray, List.getElem_cons_succ, List.getElem_cons_zero, Act.put, List.setIfInBounds_toArray, List.set_cons_zero, List.set_cons_succ]
        refine HT.load (i := 2) (oi := _) (v := ?_) rfl (by kernel_rfl) (by kernel_rfl) (by decide) (fun _ _ _ h => h) (by kernel_rfl) (Or.inl ⟨by rfl, ?_⟩) hS ?_
        rotate_left
        · intro wz hwz
          try dsimp only at hwz
          go_simp
          try with_reducible rfl
        simp only [List.getElem_toArray, List.getElem_cons_succ, List.getElem_cons_zero, Act.put, List.setIfInBounds_toArray, List.set_cons_zero, List.set_cons_succ]
        refine HT.two 1 5 (o := _) (o' := _) rfl rfl (by kernel_rfl) (by decide) (by decide) (by rfl) (by rfl) ?_ ?_
        · intro K hK
          go_simp
          refine (FROM_ok HR1.out _).mono ?_
          rintro e wn ⟨ng4, A4, n4, c4, D4, m4, d4, rfl, h4, k4, l4, hbn⟩
          have H4 := Lib.hid h4
          clear h4
          skip
          have HBn := Lib.hid (HBc.out.trans (hbn.mono HBc.out.size))
          have hSn := five_keep hS hbn hgc1 hgc2
          have hgn1 := Nat.lt_of_lt_of_le hgc1 hbn.size
          have hgn2 := Nat.lt_of_lt_of_le hgc2 hbn.size
          refine hK.out _ _ hSn ?_
          clear hK K hS HBc hgc1 hgc2
          try simp only [List.getElem_toArray, List.getElem_cons_succ, List.getElem_cons_zero, Act.put, List.setIfInBounds_toArray, List.set_cons_zero, List.set_cons_succ]
          have hS := hSn
          have HBc := HBn
          have hgc1 := hgn1
          have hgc2 := hgn2
          clear hSn HBn hgn1 hgn2 hbn
          obtain ⟨wc, rfl⟩ : ∃ x : World, x = wn := ⟨_, rfl⟩
          refine HT.two 3 5 (o := _) (o' := _) rfl rfl (by kernel_rfl) (by decide) (by decide) (by rfl) (by rfl) ?_ ?_
          · intro K hK
            go_simp
            refine (QMUL_any ng4 ng2 A4 A2 D4 A3 n4 c4 m4 d4 n2 c2 n3 c3 q (scQ p) (by omega) (by omega) (by omega) (by omega) _ wc.heap.size (Nat.le_refl _) H4 (by exact Lib.hid (HSC4.out.to HBc.out (Nat.le_refl _) HBc.out.size))).mono ?_
            rintro e wn ⟨ng5, A5, n5, c5, D5, m5, d5, rfl, h5, k5, l5, hbn⟩
            have H5 := Lib.hid h5
            clear h5 H4
            skip
            have HBn := Lib.hid (HBc.out.trans (hbn.mono HBc.out.size))
            have hSn := five_keep hS hbn hgc1 hgc2
            have hgn1 := Nat.lt_of_lt_of_le hgc1 hbn.size
            have hgn2 := Nat.lt_of_lt_of_le hgc2 hbn.size
            refine hK.out _ _ hSn ?_
            clear hK K hS HBc hgc1 hgc2
            try simp only [List.getElem_toArray, List.getElem_cons_succ, List.getElem_cons_zero, Act.put, List.setIfInBounds_toArray, List.set_cons_zero, List.set_cons_succ]
            have hS := hSn
            have HBc := HBn
            have hgc1 := hgn1
            have hgc2 := hgn2
            clear hSn HBn hgn1 hgn2 hbn
            obtain ⟨wc, rfl⟩ : ∃ x : World, x = wn := ⟨_, rfl⟩
            refine HT.two 4 5 (o := _) (o' := _) rfl rfl (by kernel_rfl) (by decide) (by decide) (by rfl) (by rfl) ?_ ?_
            · intro K hK
              go_simp
              refine (QNEAR_any ng5 A5 D5 n5 c5 m5 d5 _ (by omega) (by omega) _ wc.heap.size (Nat.le_refl _) H5).mono ?_
              rintro e wn ⟨ng6, A6, n6, c6, rfl, h6, k6, hbn⟩
              have H6 := Lib.hid h6
              clear h6 H5
              skip
              have HBn := Lib.hid (HBc.out.trans (hbn.mono HBc.out.size))
              have hSn := five_keep hS hbn hgc1 hgc2
              have hgn1 := Nat.lt_of_lt_of_le hgc1 hbn.size
              have hgn2 := Nat.lt_of_lt_of_le hgc2 hbn.size
              refine hK.out _ _ hSn ?_
              clear hK K hS HBc hgc1 hgc2
              try simp only [List.getElem_toArray, List.getElem_cons_succ, List.getElem_cons_zero, Act.put, List.setIfInBounds_toArray, List.set_cons_zero, List.set_cons_succ]
              have hS := hSn
              have HBc := HBn
              have hgc1 := hgn1
              have hgc2 := hgn2
              clear hSn HBn hgn1 hgn2 hbn
              obtain ⟨wc, rfl⟩ : ∃ x : World, x = wn := ⟨_, rfl⟩
              refine HT.one (i := 5) (o := _) rfl (by kernel_rfl) (by decide) (by rfl) ?_
              intro K hK
              have HGA0 : Hid (W4.heap.size ≤ wc.heap.size) := HBc.out.size
              go_simp
              obtain ⟨wn, ga, hwn, hga, HA, hbn0, _⟩ := cell_new wc 44 #[.bool false, .slice none 0 0]
              have HGA : Hid (W4.heap.size ≤ ga) := by rw [hga]; exact HGA0
              have hbn := hbn0.out
              rw [← hwn, ← hga]
              clear hwn hga hbn0
              replace H6 := Lib.hid (H6.out.to hbn (Nat.le_refl _) hbn.size)
              have HBn := Lib.hid (HBc.out.trans (hbn.mono HBc.out.size))
              have hSn := five_keep hS hbn hgc1 hgc2
              have hgn1 := Nat.lt_of_lt_of_le hgc1 hbn.size
              have hgn2 := Nat.lt_of_lt_of_le hgc2 hbn.size
              refine hK.out _ _ hSn ?_
              clear hK K hS HBc hgc1 hgc2
              try simp only [List.getElem_toArray, List.getElem_cons_succ, List.getElem_cons_zero, Act.put, List.setIfInBounds_toArray, List.set_cons_zero, List.set_cons_succ]
              have hS := hSn
              have HBc := HBn
              have hgc1 := hgn1
              have hgc2 := hgn2
              clear hSn HBn hgn1 hgn2 hbn
              obtain ⟨wc, rfl⟩ : ∃ x : World, x = wn := ⟨_, rfl⟩
              obtain ⟨z0, _⟩ := hS
              have hS := z0
              refine HT.done (by kernel_rfl) ?_
              clear hS
              simp only [List.drop_succ_cons, List.drop_zero]
              obtain ⟨hr0, hr1, hf0, hf1⟩ := two_cells HA.out
              go_wp2_with fail
              go_meet
              refine ⟨ga, ng6, A6, n6, c6, rfl, by omega, heap_two_set HA.out, ?_, set2_below' (HB4.out.trans (HBc.out.mono HB4.out.size)) (by have := HGA.out; have := HB4.out.size; omega)⟩
              exact ⟨H6.out.1, NumAt.mono ((H6.out.2.set_far (p := ⟨ga, 0, none⟩) ⟨_, _, HA.out⟩ (by decide) _).set_far (p := ⟨ga, 1, none⟩) (TyAt.set ⟨_, _, HA.out⟩ _ _) (by decide) _) (by simp)⟩
            · intro K hK
              have HGA0 : Hid (W4.heap.size ≤ wc.heap.size) := HBc.out.size
              go_simp
              obtain ⟨wn, ga, hwn, hga, HA, hbn0, _⟩ := cell_new wc 44 #[.bool false, .slice none 0 0]
              have HGA : Hid (W4.heap.size ≤ ga) := by rw [hga]; exact HGA0
              have hbn := hbn0.out
              rw [← hwn, ← hga]
              clear hwn hga hbn0
              replace H5 := Lib.hid (H5.out.to hbn (Nat.le_refl _) hbn.size)
              have HBn := Lib.hid (HBc.out.trans (hbn.mono HBc.out.size))
              have hSn := five_keep hS hbn hgc1 hgc2
              have hgn1 := Nat.lt_of_lt_of_le hgc1 hbn.size
              have hgn2 := Nat.lt_of_lt_of_le hgc2 hbn.size
              refine hK.out _ _ hSn ?_
              clear hK K hS HBc hgc1 hgc2
              try simp only [List.getElem_toArray, List.getElem_cons_succ, List.getElem_cons_zero, Act.put, List.setIfInBounds_toArray, List.set_cons_zero, List.set_cons_succ]
              have hS := hSn
              have HBc := HBn
              have hgc1 := hgn1
              have hgc2 := hgn2
              clear hSn HBn hgn1 hgn2 hbn
              obtain ⟨wc, rfl⟩ : ∃ x : World, x = wn := ⟨_, rfl⟩
              refine HT.one (i := 4) (o := _) rfl (by kernel_rfl) (by decide) (by rfl) ?_
              intro K hK
              go_simp
              refine (QNEAR_any ng5 A5 D5 n5 c5 m5 d5 _ (by omega) (by omega) _ wc.heap.size (Nat.le_refl _) H5).mono ?_
              rintro e wn ⟨ng6, A6, n6, c6, rfl, h6, k6, hbn⟩
              have H6 := Lib.hid h6
              clear h6 H5
              replace HA := Lib.hid ((hbn.block ga (blk_lt HA.out)).trans HA.out)
              have HBn := Lib.hid (HBc.out.trans (hbn.mono HBc.out.size))
              have hSn := five_keep hS hbn hgc1 hgc2
              have hgn1 := Nat.lt_of_lt_of_le hgc1 hbn.size
              have hgn2 := Nat.lt_of_lt_of_le hgc2 hbn.size
              refine hK.out _ _ hSn ?_
              clear hK K hS HBc hgc1 hgc2
              try simp only [List.getElem_toArray, List.getElem_cons_succ, List.getElem_cons_zero, Act.put, List.setIfInBounds_toArray, List.set_cons_zero, List.set_cons_succ]
              have hS := hSn
              have HBc := HBn
              have hgc1 := hgn1
              have hgc2 := hgn2
              clear hSn HBn hgn1 hgn2 hbn
              obtain ⟨wc, rfl⟩ : ∃ x : World, x = wn := ⟨_, rfl⟩
              obtain ⟨z0, _⟩ := hS
              have hS := z0
              refine HT.done (by kernel_rfl) ?_
              clear hS
              simp only [List.drop_succ_cons, List.drop_zero]
              obtain ⟨hr0, hr1, hf0, hf1⟩ := two_cells HA.out
              go_wp2_with fail
              go_meet
              refine ⟨ga, ng6, A6, n6, c6, rfl, by omega, heap_two_set HA.out, ?_, set2_below' (HB4.out.trans (HBc.out.mono HB4.out.size)) (by have := HGA.out; have := HB4.out.size; omega)⟩
              exact ⟨H6.out.1, NumAt.mono ((H6.out.2.set_far (p := ⟨ga, 0, none⟩) ⟨_, _, HA.out⟩ (by decide) _).set_far (p := ⟨ga, 1, none⟩) (TyAt.set ⟨_, _, HA.out⟩ _ _) (by decide) _) (by simp)⟩
          · intro K hK
            have HGA0 : Hid (W4.heap.size ≤ wc.heap.size) := HBc.out.size
            go_simp
            obtain ⟨wn, ga, hwn, hga, HA, hbn0, _⟩ := cell_new wc 44 #[.bool false, .slice none 0 0]
            have HGA : Hid (W4.heap.size ≤ ga) := by rw [hga]; exact HGA0
            have hbn := hbn0.out
            rw [← hwn, ← hga]
            clear hwn hga hbn0
            replace H4 := Lib.hid (H4.out.to hbn (Nat.le_refl _) hbn.size)
            have HBn := Lib.hid (HBc.out.trans (hbn.mono HBc.out.size))
            have hSn := five_keep hS hbn hgc1 hgc2
            have hgn1 := Nat.lt_of_lt_of_le hgc1 hbn.size
            have hgn2 := Nat.lt_of_lt_of_le hgc2 hbn.size
            refine hK.out _ _ hSn ?_
            clear hK K hS HBc hgc1 hgc2
            try simp only [List.getElem_toArray, List.getElem_cons_succ, List.getElem_cons_zero, Act.put, List.setIfInBounds_toArray, List.set_cons_zero, List.set_cons_succ]
            have hS := hSn
            have HBc := HBn
            have hgc1 := hgn1
            have hgc2 := hgn2
            clear hSn HBn hgn1 hgn2 hbn
            obtain ⟨wc, rfl⟩ : ∃ x : World, x = wn := ⟨_, rfl⟩
            refine HT.one (i := 3) (o := _) rfl (by kernel_rfl) (by decide) (by rfl) ?_
            intro K hK
            go_simp
            refine (QMUL_any ng4 ng2 A4 A2 D4 A3 n4 c4 m4 d4 n2 c2 n3 c3 q (scQ p) (by omega) (by omega) (by omega) (by omega) _ wc.heap.size (Nat.le_refl _) H4 (by exact Lib.hid (HSC4.out.to HBc.out (Nat.le_refl _) HBc.out.size))).mono ?_
            rintro e wn ⟨ng5, A5, n5, c5, D5, m5, d5, rfl, h5, k5, l5, hbn⟩
            have H5 := Lib.hid h5
            clear h5 H4
            replace HA := Lib.hid ((hbn.block ga (blk_lt HA.out)).trans HA.out)
            have HBn := Lib.hid (HBc.out.trans (hbn.mono HBc.out.size))
            have hSn := five_keep hS hbn hgc1 hgc2
            have hgn1 := Nat.lt_of_lt_of_le hgc1 hbn.size
            have hgn2 := Nat.lt_of_lt_of_le hgc2 hbn.size
            refine hK.out _ _ hSn ?_
            clear hK K hS HBc hgc1 hgc2
            try simp only [List.getElem_toArray, List.getElem_cons_succ, List.getElem_cons_zero, Act.put, List.setIfInBounds_toArray, List.set_cons_zero, List.set_cons_succ]
            have hS := hSn
            have HBc := HBn
            have hgc1 := hgn1
            have hgc2 := hgn2
            clear hSn HBn hgn1 hgn2 hbn
            obtain ⟨wc, rfl⟩ : ∃ x : World, x = wn := ⟨_, rfl⟩
            refine HT.one (i := 4) (o := _) rfl (by kernel_rfl) (by decide) (by rfl) ?_
            intro K hK
            go_simp
            refine (QNEAR_any ng5 A5 D5 n5 c5 m5 d5 _ (by omega) (by omega) _ wc.heap.size (Nat.le_refl _) H5).mono ?_
            rintro e wn ⟨ng6, A6, n6, c6, rfl, h6, k6, hbn⟩
            have H6 := Lib.hid h6
            clear h6 H5
            replace HA := Lib.hid ((hbn.block ga (blk_lt HA.out)).trans HA.out)
            have HBn := Lib.hid (HBc.out.trans (hbn.mono HBc.out.size))
            have hSn := five_keep hS hbn hgc1 hgc2
            have hgn1 := Nat.lt_of_lt_of_le hgc1 hbn.size
            have hgn2 := Nat.lt_of_lt_of_le hgc2 hbn.size
            refine hK.out _ _ hSn ?_
            clear hK K hS HBc hgc1 hgc2
            try simp only [List.getElem_toArray, List.getElem_cons_succ, List.getElem_cons_zero, Act.put, List.setIfInBounds_toArray, List.set_cons_zero, List.set_cons_succ]
            have hS := hSn
            have HBc := HBn
            have hgc1 := hgn1
            have hgc2 := hgn2
            clear hSn HBn hgn1 hgn2 hbn
            obtain ⟨wc, rfl⟩ : ∃ x : World, x = wn := ⟨_, rfl⟩
            obtain ⟨z0, _⟩ := hS
            have hS := z0
            refine HT.done (by kernel_rfl) ?_
            clear hS
            simp only [List.drop_succ_cons, List.drop_zero]
            obtain ⟨hr0, hr1, hf0, hf1⟩ := two_cells HA.out
            go_wp2_with fail
            go_meet
            refine ⟨ga, ng6, A6, n6, c6, rfl, by omega, heap_two_set HA.out, ?_, set2_below' (HB4.out.trans (HBc.out.mono HB4.out.size)) (by have := HGA.out; have := HB4.out.size; omega)⟩
            exact ⟨H6.out.1, NumAt.mono ((H6.out.2.set_far (p := ⟨ga, 0, none⟩) ⟨_, _, HA.out⟩ (by decide) _).set_far (p := ⟨ga, 1, none⟩) (TyAt.set ⟨_, _, HA.out⟩ _ _) (by decide) _) (by simp)⟩
        · intro K hK
          have HGA0 : Hid (W4.heap.size ≤ wc.heap.size) := HBc.out.size
          go_simp
          obtain ⟨wn, ga, hwn, hga, HA, hbn0, _⟩ := cell_new wc 44 #[.bool false, .slice none 0 0]
          have HGA : Hid (W4.heap.size ≤ ga) := by rw [hga]; exact HGA0
          have hbn := hbn0.out
          rw [← hwn, ← hga]
          clear hwn hga hbn0
          skip
          have HBn := Lib.hid (HBc.out.trans (hbn.mono HBc.out.size))
          have hSn := five_keep hS hbn hgc1 hgc2
          have hgn1 := Nat.lt_of_lt_of_le hgc1 hbn.size
          have hgn2 := Nat.lt_of_lt_of_le hgc2 hbn.size
          refine hK.out _ _ hSn ?_
          clear hK K hS HBc hgc1 hgc2
          try simp only [List.getElem_toArray, List.getElem_cons_succ, List.getElem_cons_zero, Act.put, List.setIfInBounds_toArray, List.set_cons_zero, List.set_cons_succ]
          have hS := hSn
          have HBc := HBn
          have hgc1 := hgn1
          have hgc2 := hgn2
          clear hSn HBn hgn1 hgn2 hbn
          obtain ⟨wc, rfl⟩ : ∃ x : World, x = wn := ⟨_, rfl⟩
          refine HT.one (i := 1) (o := _) rfl (by kernel_rfl) (by decide) (by rfl) ?_
          intro K hK
          go_simp
          refine (FROM_ok HR1.out _).mono ?_
          rintro e wn ⟨ng4, A4, n4, c4, D4, m4, d4, rfl, h4, k4, l4, hbn⟩
          have H4 := Lib.hid h4
          clear h4
          replace HA := Lib.hid ((hbn.block ga (blk_lt HA.out)).trans HA.out)
          have HBn := Lib.hid (HBc.out.trans (hbn.mono HBc.out.size))
          have hSn := five_keep hS hbn hgc1 hgc2
          have hgn1 := Nat.lt_of_lt_of_le hgc1 hbn.size
          have hgn2 := Nat.lt_of_lt_of_le hgc2 hbn.size
          refine hK.out _ _ hSn ?_
          clear hK K hS HBc hgc1 hgc2
          try simp only [List.getElem_toArray, List.getElem_cons_succ, List.getElem_cons_zero, Act.put, List.setIfInBounds_toArray, List.set_cons_zero, List.set_cons_succ]
          have hS := hSn
          have HBc := HBn
          have hgc1 := hgn1
          have hgc2 := hgn2
          clear hSn HBn hgn1 hgn2 hbn
          obtain ⟨wc, rfl⟩ : ∃ x : World, x = wn := ⟨_, rfl⟩
          refine HT.one (i := 3) (o := _) rfl (by kernel_rfl) (by decide) (by rfl) ?_
          intro K hK
          go_simp
          refine (QMUL_any ng4 ng2 A4 A2 D4 A3 n4 c4 m4 d4 n2 c2 n3 c3 q (scQ p) (by omega) (by omega) (by omega) (by omega) _ wc.heap.size (Nat.le_refl _) H4 (by exact Lib.hid (HSC4.out.to HBc.out (Nat.le_refl _) HBc.out.size))).mono ?_
          rintro e wn ⟨ng5, A5, n5, c5, D5, m5, d5, rfl, h5, k5, l5, hbn⟩
          have H5 := Lib.hid h5
          clear h5 H4
          replace HA := Lib.hid ((hbn.block ga (blk_lt HA.out)).trans HA.out)
          have HBn := Lib.hid (HBc.out.trans (hbn.mono HBc.out.size))
          have hSn := five_keep hS hbn hgc1 hgc2
          have hgn1 := Nat.lt_of_lt_of_le hgc1 hbn.size
          have hgn2 := Nat.lt_of_lt_of_le hgc2 hbn.size
          refine hK.out _ _ hSn ?_
          clear hK K hS HBc hgc1 hgc2
          try simp only [List.getElem_toArray, List.getElem_cons_succ, List.getElem_cons_zero, Act.put, List.setIfInBounds_toArray, List.set_cons_zero, List.set_cons_succ]
          have hS := hSn
          have HBc := HBn
          have hgc1 := hgn1
          have hgc2 := hgn2
          clear hSn HBn hgn1 hgn2 hbn
          obtain ⟨wc, rfl⟩ : ∃ x : World, x = wn := ⟨_, rfl⟩
          refine HT.one (i := 4) (o := _) rfl (by kernel_rfl) (by decide) (by rfl) ?_
          intro K hK
          go_simp
          refine (QNEAR_any ng5 A5 D5 n5 c5 m5 d5 _ (by omega) (by omega) _ wc.heap.size (Nat.le_refl _) H5).mono ?_
          rintro e wn ⟨ng6, A6, n6, c6, rfl, h6, k6, hbn⟩
          have H6 := Lib.hid h6
          clear h6 H5
          replace HA := Lib.hid ((hbn.block ga (blk_lt HA.out)).trans HA.out)
          have HBn := Lib.hid (HBc.out.trans (hbn.mono HBc.out.size))
          have hSn := five_keep hS hbn hgc1 hgc2
          have hgn1 := Nat.lt_of_lt_of_le hgc1 hbn.size
          have hgn2 := Nat.lt_of_lt_of_le hgc2 hbn.size
          refine hK.out _ _ hSn ?_
          clear hK K hS HBc hgc1 hgc2
          try simp only [List.getElem_toArray, List.getElem_cons_succ, List.getElem_cons_zero, Act.put, List.setIfInBounds_toArray, List.set_cons_zero, List.set_cons_succ]
          have hS := hSn
          have HBc := HBn
          have hgc1 := hgn1
          have hgc2 := hgn2
          clear hSn HBn hgn1 hgn2 hbn
          obtain ⟨wc, rfl⟩ : ∃ x : World, x = wn := ⟨_, rfl⟩
          obtain ⟨z0, _⟩ := hS
          have hS := z0
          refine HT.done (by kernel_rfl) ?_
          clear hS
          simp only [List.drop_succ_cons, List.drop_zero]
          obtain ⟨hr0, hr1, hf0, hf1⟩ := two_cells HA.out
          go_wp2_with fail
          go_meet
          refine ⟨ga, ng6, A6, n6, c6, rfl, by omega, heap_two_set HA.out, ?_, set2_below' (HB4.out.trans (HBc.out.mono HB4.out.size)) (by have := HGA.out; have := HB4.out.size; omega)⟩
          exact ⟨H6.out.1, NumAt.mono ((H6.out.2.set_far (p := ⟨ga, 0, none⟩) ⟨_, _, HA.out⟩ (by decide) _).set_far (p := ⟨ga, 1, none⟩) (TyAt.set ⟨_, _, HA.out⟩ _ _) (by decide) _) (by simp)⟩
      case rest =>
        clear x0 x1 y0 y1 y2 HSC4 HB4 hgw hgqw HB0 HB1 HB2 HB3
        obtain ⟨ga, ng, A6, n6, c6, rfl, k6, HGA, HI, HBX⟩ := hcut
        obtain ⟨hr0, hr1, hf0, hf1⟩ := two_cells HGA.out
        go_wp2_with fail
        refine (ITEXT_any ng A6 n6 c6 _ (by omega) _ _ (Nat.le_refl _) HI).mono ?_
        rintro e w6 ⟨⟨tx, rfl, htx⟩, hb6⟩
        have HB6 := Lib.hid (HBX.out.trans (hb6.mono HBX.out.size))
        obtain ⟨z, hz⟩ : ∃ z, nearQ (q * scQ p) = z := ⟨_, rfl⟩
        have hlt := HI.out.2.lt_pow
        have HDT : Hid (decT q p = (if z < 0 then [45] else []) ++ padT (Lib.decDigits z.natAbs) p) := by show _ = _; unfold decT; rw [hz]
        rw [hz] at htx hlt
        obtain ⟨pn, pb⟩ := txtZ_parts htx
        obtain ⟨v, hv⟩ : ∃ v : ByteArray, v = ⟨(bodyT tx).toArray⟩ := ⟨_, rfl⟩
        have HVT := Lib.hid hv
        have HVD : Hid (v.data.toList = Lib.decDigits z.natAbs) := by show _ = _; rw [hv, ← pb]
        have hvs : v.size ≤ 1000001 := by
          have h2 : (4294967296 : Nat) ^ n6 ≤ 10 ^ (10 * n6 + 1) := by
            refine Nat.le_trans (Nat.pow_le_pow_left (show (4294967296 : Nat) ≤ 10 ^ 10 by decide) n6) ?_
            rw [← Nat.pow_mul]
            exact Nat.pow_le_pow_right (by omega) (by omega)
          have h3 := dec_len (10 * n6 + 1) z.natAbs (Nat.succ_pos _) (Nat.lt_of_lt_of_le hlt h2)
          rw [← len_data, HVD.out]
          omega
        obtain ⟨b, hb⟩ : ∃ b, negT tx = b := ⟨_, rfl⟩
        have HBN := Lib.hid hb
        have HSG : Hid (b = decide (z < 0)) := by show _ = _; rw [← hb, pn]
        clear hb6 hz hlt htx pn pb hv hb HI HGA hr0 hr1 hf0 hf1 HBX
        go_wp2_with fail
        refine (CUT_eq HVT HBN _).mono ?_
        rintro e w7 ⟨rfl, rfl⟩
        have HPZ : Hid ((padZ (Lib.decDigits z.natAbs) p).length = max v.size (p + 1)) := pad_size HVD.out p hp (by omega)
        obtain ⟨vp, hvp⟩ : ∃ vp : ByteArray, vp = ⟨(padZ (Lib.decDigits z.natAbs) p).toArray⟩ := ⟨_, rfl⟩
        have HVP : Hid (vp.data.toList = padZ (Lib.decDigits z.natAbs) p) := by show _ = _; rw [hvp]
        have HVPE := Lib.hid hvp
        have hvpl : vp.size = max v.size (p + 1) := by rw [← len_data, HVP.out]; exact HPZ.out
        clear hvp
        by_cases hle : v.size ≤ p
        · obtain ⟨c, hc⟩ : ∃ c, p + 1 - v.size = c := ⟨_, rfl⟩
          have hci : (p : Int) + 1 - (v.size : Int) = (c : Int) := by omega
          have hle9 : (v.size : Int) ≤ (p : Int) := by omega
          have HCC : Hid (c = p + 1 - (Lib.decDigits z.natAbs).length) := by show _ = _; rw [← hc, ← HVD.out, len_data]
          clear hc
          go_wp2_with fail
          refine (REPEAT_any c (by omega) _).mono ?_
          rintro e w8 ⟨⟨zz, rfl, hzz⟩, hb8⟩
          have HB8 := Lib.hid (HB6.out.trans (hb8.mono HB6.out.size))
          have HE : Hid (zz ++ v = vp) := by
            show _ = _
            refine (ba_ext (l := padZ (Lib.decDigits z.natAbs) p) ?_).trans HVPE.out.symm
            unfold padZ
            rw [← HCC.out, ← hzz, ← HVD.out]
            simp [ByteArray.data_append]
          have hzs : zz.size = c := by rw [← len_data, hzz, List.length_replicate]
          clear hb8 hzz
          go_upto_region 11 with (fail)
          rw [HE.out]
          have hvp1 : p < vp.size := by omega
          have hvp2 : vp.size ≤ 1000050 := by omega
          by_cases hp0 : 0 < p
          · obtain ⟨d, hd⟩ : ∃ d, vp.size - p = d := ⟨_, rfl⟩
            have hdi : (vp.size : Int) - (p : Int) = (d : Int) := by omega
            have hp9 : (0 : Int) < (p : Int) := by omega
            have hd1 : d ≤ vp.size := by omega
            obtain ⟨va, hva⟩ : ∃ v : ByteArray, v = vp.extract 0 d := ⟨_, rfl⟩
            obtain ⟨vb, hvb⟩ : ∃ v : ByteArray, v = vp.extract d vp.size := ⟨_, rfl⟩
            have HVA : Hid (va.data.toList = vp.data.toList.take d) := by show _ = _; rw [hva]; exact ext_pre vp d
            have HVB : Hid (vb.data.toList = vp.data.toList.drop d) := by show _ = _; rw [hvb]; exact Lib.extract_to_end vp d
            have hvas : va.size = d := by rw [← len_data, HVA.out, List.length_take, len_data]; omega
            have hvbs : vb.size = vp.size - d := by rw [← len_data, HVB.out, List.length_drop, len_data]
            have h46 : (⟨#[46]⟩ : ByteArray).size = 1 := rfl
            have HR : Hid (((va ++ ⟨#[46]⟩) ++ vb).data.toList = padT (Lib.decDigits z.natAbs) p) := by
              show _ = _
              unfold padT
              rw [if_pos hp0, ← HVP.out, len_data, hd, ← HVA.out, ← HVB.out]
              simp [ByteArray.data_append]
            clear hd hvpl hp0
            go_upto_region 12 with (fail)
            go_quiet (fail)
            rw [← hva, ← hvb]
            clear hva hvb
            cases b with
            | false =>
              have HN : Hid ((if z < 0 then [45] else []) = ([] : List UInt8)) := if_neg (of_decide_eq_false HSG.out.symm)
              have HFIN : Hid ((⟨(decT q p).toArray⟩ : ByteArray) = ((va ++ ⟨#[46]⟩) ++ vb)) := by
                show _ = _
                refine (ba_ext ?_).symm
                rw [HDT.out, HN.out, List.nil_append, HR.out]
              go_wp2_with fail
              go_ret2
              exact ⟨by rw [HV.out]; dsimp only; rw [HFIN.out]; rfl, by first | exact HB8.out | exact belowN HB8.out _⟩
            | true =>
              have HN : Hid ((if z < 0 then [45] else []) = ([45] : List UInt8)) := if_pos (of_decide_eq_true HSG.out.symm)
              have HFIN : Hid ((⟨(decT q p).toArray⟩ : ByteArray) = ⟨#[45]⟩ ++ ((va ++ ⟨#[46]⟩) ++ vb)) := by
                show _ = _
                refine (ba_ext ?_).symm
                rw [HDT.out, HN.out, ← HR.out]
                simp [ByteArray.data_append]
              have h45 : (⟨#[45]⟩ : ByteArray).size = 1 := rfl
              go_wp2_with fail
              go_ret2
              exact ⟨by rw [HV.out]; dsimp only; rw [HFIN.out]; rfl, by first | exact HB8.out | exact belowN HB8.out _⟩
          · have HR : Hid (vp.data.toList = padT (Lib.decDigits z.natAbs) p) := by show _ = _; unfold padT; rw [if_neg hp0]; exact HVP.out
            have hp9 : ¬ (0 : Int) < (p : Int) := by omega
            clear hp0 hvpl
            cases b with
            | false =>
              have HN : Hid ((if z < 0 then [45] else []) = ([] : List UInt8)) := if_neg (of_decide_eq_false HSG.out.symm)
              have HFIN : Hid ((⟨(decT q p).toArray⟩ : ByteArray) = vp) := by
                show _ = _
                refine (ba_ext ?_).symm
                rw [HDT.out, HN.out, List.nil_append, HR.out]
              go_wp2_with fail
              go_ret2
              exact ⟨by rw [HV.out]; dsimp only; rw [HFIN.out]; rfl, by first | exact HB8.out | exact belowN HB8.out _⟩
            | true =>
              have HN : Hid ((if z < 0 then [45] else []) = ([45] : List UInt8)) := if_pos (of_decide_eq_true HSG.out.symm)
              have HFIN : Hid ((⟨(decT q p).toArray⟩ : ByteArray) = ⟨#[45]⟩ ++ vp) := by
                show _ = _
                refine (ba_ext ?_).symm
                rw [HDT.out, HN.out, ← HR.out]
                simp [ByteArray.data_append]
              have h45 : (⟨#[45]⟩ : ByteArray).size = 1 := rfl
              go_wp2_with fail
              go_ret2
              exact ⟨by rw [HV.out]; dsimp only; rw [HFIN.out]; rfl, by first | exact HB8.out | exact belowN HB8.out _⟩
        · have hle9 : ¬ (v.size : Int) ≤ (p : Int) := by omega
          have HE : Hid (v = vp) := by
            show _ = _
            refine (ba_ext (l := padZ (Lib.decDigits z.natAbs) p) ?_).trans HVPE.out.symm
            unfold padZ
            rw [show p + 1 - (Lib.decDigits z.natAbs).length = 0 by rw [← HVD.out, len_data]; omega, HVD.out]
            rfl
          have HB8 := HB6
          go_upto_region 11 with (fail)
          rw [HE.out]
          have hvp1 : p < vp.size := by omega
          have hvp2 : vp.size ≤ 1000050 := by omega
          by_cases hp0 : 0 < p
          · obtain ⟨d, hd⟩ : ∃ d, vp.size - p = d := ⟨_, rfl⟩
            have hdi : (vp.size : Int) - (p : Int) = (d : Int) := by omega
            have hp9 : (0 : Int) < (p : Int) := by omega
            have hd1 : d ≤ vp.size := by omega
            obtain ⟨va, hva⟩ : ∃ v : ByteArray, v = vp.extract 0 d := ⟨_, rfl⟩
            obtain ⟨vb, hvb⟩ : ∃ v : ByteArray, v = vp.extract d vp.size := ⟨_, rfl⟩
            have HVA : Hid (va.data.toList = vp.data.toList.take d) := by show _ = _; rw [hva]; exact ext_pre vp d
            have HVB : Hid (vb.data.toList = vp.data.toList.drop d) := by show _ = _; rw [hvb]; exact Lib.extract_to_end vp d
            have hvas : va.size = d := by rw [← len_data, HVA.out, List.length_take, len_data]; omega
            have hvbs : vb.size = vp.size - d := by rw [← len_data, HVB.out, List.length_drop, len_data]
            have h46 : (⟨#[46]⟩ : ByteArray).size = 1 := rfl
            have HR : Hid (((va ++ ⟨#[46]⟩) ++ vb).data.toList = padT (Lib.decDigits z.natAbs) p) := by
              show _ = _
              unfold padT
              rw [if_pos hp0, ← HVP.out, len_data, hd, ← HVA.out, ← HVB.out]
              simp [ByteArray.data_append]
            clear hd hvpl hp0
            go_upto_region 12 with (fail)
            go_quiet (fail)
            rw [← hva, ← hvb]
            clear hva hvb
            cases b with
            | false =>
              have HN : Hid ((if z < 0 then [45] else []) = ([] : List UInt8)) := if_neg (of_decide_eq_false HSG.out.symm)
              have HFIN : Hid ((⟨(decT q p).toArray⟩ : ByteArray) = ((va ++ ⟨#[46]⟩) ++ vb)) := by
                show _ = _
                refine (ba_ext ?_).symm
                rw [HDT.out, HN.out, List.nil_append, HR.out]
              go_wp2_with fail
              go_ret2
              exact ⟨by rw [HV.out]; dsimp only; rw [HFIN.out]; rfl, by first | exact HB8.out | exact belowN HB8.out _⟩
            | true =>
              have HN : Hid ((if z < 0 then [45] else []) = ([45] : List UInt8)) := if_pos (of_decide_eq_true HSG.out.symm)
              have HFIN : Hid ((⟨(decT q p).toArray⟩ : ByteArray) = ⟨#[45]⟩ ++ ((va ++ ⟨#[46]⟩) ++ vb)) := by
                show _ = _
                refine (ba_ext ?_).symm
                rw [HDT.out, HN.out, ← HR.out]
                simp [ByteArray.data_append]
              have h45 : (⟨#[45]⟩ : ByteArray).size = 1 := rfl
              go_wp2_with fail
              go_ret2
              exact ⟨by rw [HV.out]; dsimp only; rw [HFIN.out]; rfl, by first | exact HB8.out | exact belowN HB8.out _⟩
          · have HR : Hid (vp.data.toList = padT (Lib.decDigits z.natAbs) p) := by show _ = _; unfold padT; rw [if_neg hp0]; exact HVP.out
            have hp9 : ¬ (0 : Int) < (p : Int) := by omega
            clear hp0 hvpl
            cases b with
            | false =>
              have HN : Hid ((if z < 0 then [45] else []) = ([] : List UInt8)) := if_neg (of_decide_eq_false HSG.out.symm)
              have HFIN : Hid ((⟨(decT q p).toArray⟩ : ByteArray) = vp) := by
                show _ = _
                refine (ba_ext ?_).symm
                rw [HDT.out, HN.out, List.nil_append, HR.out]
              go_wp2_with fail
              go_ret2
              exact ⟨by rw [HV.out]; dsimp only; rw [HFIN.out]; rfl, by first | exact HB8.out | exact belowN HB8.out _⟩
            | true =>
              have HN : Hid ((if z < 0 then [45] else []) = ([45] : List UInt8)) := if_pos (of_decide_eq_true HSG.out.symm)
              have HFIN : Hid ((⟨(decT q p).toArray⟩ : ByteArray) = ⟨#[45]⟩ ++ vp) := by
                show _ = _
                refine (ba_ext ?_).symm
                rw [HDT.out, HN.out, ← HR.out]
                simp [ByteArray.data_append]
              have h45 : (⟨#[45]⟩ : ByteArray).size = 1 := rfl
              go_wp2_with fail
              go_ret2
              exact ⟨by rw [HV.out]; dsimp only; rw [HFIN.out]; rfl, by first | exact HB8.out | exact belowN HB8.out _⟩
  · have h1 : (k != 0) = true := by simpa using h0
    have HV : Hid (decS s t places = (noB, k)) := by show _ = _; unfold decS; rw [if_neg (by rw [HK.out]; exact h0), HK.out]
    clear h0
    go_wp2_with fail
    go_ret2
    exact ⟨by rw [HV.out]; rfl, HB0.out⟩
end Go.Proofs.YtcjdmffflepplaaGreatDoor
