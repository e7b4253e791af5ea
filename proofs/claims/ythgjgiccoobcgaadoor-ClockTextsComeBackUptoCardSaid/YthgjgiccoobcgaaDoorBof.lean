/- clock.BarOf. -/
import Derived.Test.YthgjgiccoobcgaaDoorBar
import Derived.Test.YthgjgiccoobcgaaDoorYp
import Derived.Test.YthgjgiccoobcgaaDoorRegion3
import Derived.Test.YthgjgiccoobcgaaDoorZb
set_option linter.unusedSimpArgs false
set_option linter.unusedVariables false
namespace Go.Proofs.YthgjgiccoobcgaaDoor
open Go.RowKit Go.Dw Go.Joins
theorem ITOAZ_any (v : Int) (h0 : 0 ≤ v) (h1 : v ≤ 1000000000000) (w : World) (ht : Hid (TabAt w)) : Calls Tryd.prog 22 #[.int .i64 v] w fun e w' => ∃ z : ByteArray, e = .returned (.string z) ∧ z.size ≤ 13 ∧ Hid (z.data.toList = Lib.decDigits v.toNat) ∧ Below w.heap.size w w' := by
  obtain ⟨k, rfl⟩ : ∃ k : Nat, v = (k : Int) := ⟨v.toNat, by omega⟩
  refine (ITOA_any k (by omega) w ht).mono ?_
  rintro e w' ⟨rfl, hb⟩
  have := dec_len 13 k (by omega) (by omega)
  exact ⟨_, rfl, by rw [← len_data]; exact this, by show _ = _; rw [Int.toNat_natCast], hb⟩
set_option maxRecDepth 100000 in
set_option maxHeartbeats 8000000 in
theorem BAROF_any (A A' : Option Addr) (n c n' c' : Nat) (l ms : List Pr) (t : Int) (hn : n ≤ 8796093022207) (hn' : n' ≤ 8796093022207) (w : World) (ht : Hid (TabAt w)) (B : Nat) (hB : B ≤ w.heap.size) (hh : Hid (PrsAt w B A n l)) (hh' : Hid (PrsAt w B A' n' ms)) :
    Calls Tryd.prog 6 #[.agg #[.slice A n c, .slice A' n' c'], .int .i64 t] w fun e w' => ∃ z : ByteArray, e = .returned (.tuple #[.string z, .int .i64 (barS l ms t).2]) ∧ z.data.toList = (barS l ms t).1 ∧ Below w.heap.size w w' := by
  have hl' := Lib.hid hh'.out.1
  obtain ⟨W, gx, hW, hgx, HHW, HBW, HSW⟩ := cell_new0 w 25 #[.slice A n c, .slice A' n' c']
  obtain ⟨b0, b1, _, _⟩ := pr_cells HHW.out
  have hhW : Hid (PrsAt W B A n l) := hh.out.below HBW.out hB
  have hhW' : Hid (PrsAt W B A' n' ms) := hh'.out.below HBW.out hB
  have hBW : B ≤ W.heap.size := by have := HBW.out.size; omega
  have hgw := blk_lt HHW.out
  obtain ⟨x, hx⟩ : ∃ x, chkT l ms = x := ⟨_, rfl⟩
  have HX := Lib.hid hx
  have HCC := Lib.hid b1
  clear hx
  by_cases h0 : x = 0
  rotate_left
  · have hq : ((x : Int) != 0) = true := by simpa using h0
    have HV : Hid (barS l ms t = ([], x)) := by show _ = _; unfold barS; rw [HX.out, if_pos h0]
    go_enter Tryd.func6, Tryd.ntmps6
    go_upto_region 1 with (fail)
    rw [← hW, ← hgx]
    clear hW hgx
    go_wp2_with (go_at_call 21; refine (CHECKTEMPO_any A A' n c n' c' l ms hn hn' _ B hBW hhW hhW').mono ?_; rintro e w1 ⟨rfl, hb1⟩; rw [HX.out])
    refine bodyPost_ret (v := .tuple #[.string ⟨#[]⟩, .int .i64 x]) (by simp [results, Tryd.results6, go_sem]) rfl ?_
    rw [HV.out]
    exact ⟨_, rfl, rfl, HBW.out.trans (hb1.mono HBW.out.size)⟩
  subst h0
  have HM := Lib.hid (chkT_met HX.out)
  go_enter Tryd.func6, Tryd.ntmps6
  go_upto_region 1 with (fail)
  rw [← hW, ← hgx]
  clear hW hgx
  go_upto_region 4 with (go_at_call 21; refine (CHECKTEMPO_any A A' n c n' c' l ms hn hn' _ B hBW hhW hhW').mono ?_; rintro e w1 ⟨rfl, hb1⟩; rw [HX.out])
  have hs1 := hb1.size
  have HB1 := Lib.hid (HBW.out.trans (hb1.mono HBW.out.size))
  have hc1 : w1.cell? ⟨gx, 1, none⟩ = some (.slice A' n' c') := (hb1.cell (p := ⟨gx, 1, none⟩) hgw).trans HCC.out
  have hg1 : gx < w1.heap.size := by omega
  have hh1 : Hid (PrsAt w1 B A' n' ms) := hhW'.out.below hb1 hBW
  have ht1 : Hid (TabAt w1) := ht.out.below HB1.out
  have HC1 := Lib.hid hc1
  clear b0 b1 hb1 HBW hgw hhW hhW' HHW HSW
  by_cases h1 : t < 0
  · have HV : Hid (barS l ms t = ([], 1)) := by show _ = _; unfold barS; rw [HX.out, if_neg (by simp), if_pos (.inl h1)]
    go_wp2_with fail
    refine bodyPost_ret (v := .tuple #[.string ⟨#[]⟩, .int .i64 1]) (by simp [results, Tryd.results6, go_sem]) rfl ?_
    rw [HV.out]
    exact ⟨_, rfl, rfl, HB1.out⟩
  by_cases h2 : 1000000000 < t
  · have HV : Hid (barS l ms t = ([], 1)) := by show _ = _; unfold barS; rw [HX.out, if_neg (by simp), if_pos (.inr h2)]
    have h10 : 0 ≤ t := by omega
    go_wp2_with fail
    refine bodyPost_ret (v := .tuple #[.string ⟨#[]⟩, .int .i64 1]) (by simp [results, Tryd.results6, go_sem]) rfl ?_
    rw [HV.out]
    exact ⟨_, rfl, rfl, HB1.out⟩
  have HV : Hid (barS l ms t = (barTxt ms t, 0)) := by show _ = _; unfold barS; rw [HX.out, if_neg (by simp), if_neg (by omega)]
  have h10 : 0 ≤ t := by omega
  have h20 : t ≤ 1000000000 := by omega
  have hpos : 0 < n' := by rw [← hl'.out]; exact HM.out.pos
  have hfew : n' ≤ 200 := by rw [← hl'.out]; exact HM.out.few
  obtain ⟨W1, rfl⟩ : ∃ X : World, X = w1 := ⟨_, rfl⟩
  have ht0 : t - begZ ms 0 = t := by show t - 0 = t; omega
  clear h1 h2
  go_wp2_with fail
  go_loopw [1, 26] (fun v i wr => ∃ k : Nat, k < n' ∧ i = .int .i64 k ∧ v = .int .i64 (t - begZ ms k) ∧ Hid (begZ ms k ≤ t) ∧ Hid (Below W1.heap.size W1 wr)) (fun _ i _ => n' - (intOf i).toNat)
  case atStart => exact ⟨0, hpos, rfl, by rw [ht0], h10, Below.refl _ _⟩
  case round =>
    obtain ⟨k, hk, rfl, rfl, HL, hb⟩ := hrel
    have hc1 := (hb.out.cell (p := ⟨gx, 1, none⟩) hg1).trans HC1.out
    have hsz := hb.out.size
    have hgw : gx < wr.heap.size := by omega
    obtain ⟨bA, oA, rfl, hbA, k1, k2⟩ := (hh1.out.below hb.out (by omega)).2 k hk
    have hkl : k < ms.length := by rw [hl'.out]; exact hk
    have hbAw : bA < wr.heap.size := by omega
    have hbd := beg_nonneg HM.out hkl
    obtain ⟨⟨a1, a2⟩, m1, m2⟩ := HM.out.rng k hkl
    have HBAR := Lib.hid (fun (hh : k + 1 < ms.length → t < begZ ms (k + 1)) => (⟨hkl, HL.out, hh⟩ : IsBar ms t k))
    have HBK := Lib.hid (fun h => barK_eq HM.out h10 (HBAR.out h))
    have HBN := Lib.hid (fun h => barN_bd HM.out h10 h20 (HBAR.out h))
    obtain ⟨r, hr⟩ : ∃ r, t - begZ ms k = r := ⟨_, rfl⟩
    have hr0 : 0 ≤ r := by have := HL.out; omega
    have hr1 : r ≤ 1000000000 := by omega
    obtain ⟨p, hp⟩ : ∃ p, prOf ms k = p := ⟨_, rfl⟩
    obtain ⟨a, m⟩ := p
    have HP := Lib.hid hp
    have HR := Lib.hid hr
    rw [hp] at k1 k2 a1 a2 m1 m2
    rw [hr]
    dsimp only at k1 k2 a1 a2 m1 m2
    have hk0 : (0 : Int) ≤ (k : Int) := by omega
    have hkn : (k : Int) < (n' : Int) := by omega
    clear hp hr
    go_upto_region 10 with (fail)
    obtain ⟨W, g8, hW, hg8, HH8, HB8, HS8⟩ := cell_new0 wr 55 #[.int .i64 a, .int .i64 m]
    rw [← hW, ← hg8]
    have hc1W := (HB8.out.cell (p := ⟨gx, 1, none⟩) hgw).trans hc1
    obtain ⟨x0, x1, _, _⟩ := pr_cells HH8.out
    have hHH8 := blk_lt HH8.out
    have HBW1 := Lib.hid (hb.out.trans (HB8.out.mono hsz))
    have HX01 := Lib.hid (And.intro x0 x1)
    obtain ⟨L, hL⟩ : ∃ L, m * 960 = L := ⟨_, rfl⟩
    rw [hL]
    have hL1 : 960 ≤ L := by omega
    have hL2 : L ≤ 30720 := by omega
    have HLL := Lib.hid hL
    have hnx : k + 1 < n' → ∃ q : Int, W.cell? ⟨bA, oA + (k + 1) * 2, none⟩ = some (.int .i64 q) ∧ (prOf ms (k + 1)).1 = q ∧ a < q ∧ q ≤ 1000000000 := fun hk1 => by
      obtain ⟨b9, o9, e9, hb9, u1, _⟩ := (hh1.out.below hb.out (by omega)).2 (k + 1) hk1
      injection e9 with e9
      injection e9 with e8 e7 _
      subst e8 e7
      have h3 := HM.out.inc k (by rw [hl'.out]; exact hk1)
      rw [HP.out] at h3
      exact ⟨_, (HB8.out.cell (p := ⟨bA, oA + (k + 1) * 2, none⟩) hbAw).trans u1, rfl, h3, (HM.out.rng (k + 1) (by rw [hl'.out]; exact hk1)).1.2⟩
    have HNX := Lib.hid hnx
    clear hW hg8 hL hnx hc1 k1 k2 HB8 HS8 HH8
    by_cases hk1 : k + 1 < n'
    · obtain ⟨q, q1, hq, hq1, hq2⟩ := HNX.out hk1
      have HQ := Lib.hid hq
      have hbg : Hid (begZ ms (k + 1) = begZ ms k + (q - a) * m * 960) := by show begZ ms k + ((prOf ms (k + 1)).1 - (prOf ms k).1) * (prOf ms k).2 * 960 = _; rw [HQ.out, HP.out]
      have hpb := mul_bd (a := q - a) (c := 1000000000) (b := L) (d := 30720) (by omega) (by omega) (by omega) hL2
      obtain ⟨P, hPP⟩ : ∃ P, (q - a) * L = P := ⟨_, rfl⟩
      rw [hPP] at hpb
      have HPP : Hid (begZ ms (k + 1) = begZ ms k + P) := by show _ = _; rw [hbg.out, ← hPP, ← HLL.out, Int.mul_assoc]
      obtain ⟨hp0, hp1⟩ := hpb
      have hkI : (k : Int) + 1 < (n' : Int) := by omega
      have hq1' : W.cell? ⟨bA, oA + (k + 1) * 2, none⟩ = some (.int .i64 q) := q1
      have kw1 : IntKind.i64.wrap ((k : Int) + 1) = (k : Int) + 1 := IntWalk.i64_in _ (by omega)
      have kw2 : (0 : Int) ≤ (k : Int) + 1 := by omega
      have kw3 : ((k : Int) + 1).toNat = k + 1 := by omega
      have kw4 : IntKind.i64.wrap (q - a) = q - a := IntWalk.i64_in _ (by omega)
      have kw5 : IntKind.i64.wrap ((q - a) * L) = P := by rw [hPP]; exact IntWalk.i64_in _ (by omega)
      clear hq hPP q1 hbg HNX
      go_upto_region 11 with (fail)
      go_quiet (fail)
      obtain ⟨X, hX⟩ : ∃ X : World, X = W.drewN nq := ⟨_, rfl⟩
      rw [← hX]
      have HBX : Hid (Below W1.heap.size W1 X) := by show Below _ _ _; rw [hX]; exact belowN HBW1.out nq
      have HX0 : Hid (X.cell? ⟨g8, 0, none⟩ = some (.int .i64 a)) := by show _ = _; rw [hX]; exact HX01.out.1
      have hg8X : g8 < X.heap.size := by rw [hX]; exact hHH8
      clear kw1 kw2 kw3 kw4 kw5 hX hq1' x0 x1
      by_cases hPr : P ≤ r
      · have HL2 : Hid (begZ ms (k + 1) ≤ t) := by show _ ≤ _; rw [HPP.out]; have := HR.out; omega
        have hv : r - P = t - begZ ms (k + 1) := by rw [HPP.out]; have := HR.out; omega
        have HVV := Lib.hid hv
        clear hv
        go_wp2_with fail
        go_roundw
        case rel => exact ⟨k + 1, hk1, by go_num, val_int HVV.out, HL2, HBX⟩
        case measure => simp [intOf]; omega
      · have hPf : decide (P ≤ r) = false := decide_eq_false hPr
        have hhi : k + 1 < ms.length → t < begZ ms (k + 1) := fun _ => by rw [HPP.out]; have := HR.out; omega
        have HK9 := Lib.hid (HBK.out hhi)
        have HN9 := Lib.hid (HBN.out hhi)
        clear hPr hhi HBK HBN HBAR
        go_upto_region 15 with (fail)
        obtain ⟨u, hu⟩ : ∃ u, r % L = u := ⟨_, rfl⟩
        rw [hu]
        obtain ⟨d, hd⟩ : ∃ d, r / L = d := ⟨_, rfl⟩
        obtain ⟨e, he⟩ : ∃ e, u / 960 = e := ⟨_, rfl⟩
        obtain ⟨f, hf⟩ : ∃ f, u % 960 = f := ⟨_, rfl⟩
        have hf2 : r % 960 = f := by
          rw [← hf, ← hu]
          exact (Int.emod_emod_of_dvd r (⟨m, by have := HLL.out; omega⟩ : (960 : Int) ∣ L)).symm
        have hN1 : barN ms t k = (a + d + 1, e + 1, f) := by
          unfold barN
          rw [HP.out, HR.out]
          dsimp only
          rw [HLL.out, hu, hd, he, hf2]
        have HBT : Hid (barTxt ms t = txt3 (a + d + 1).toNat (e + 1).toNat f.toNat) := by show _ = _; unfold barTxt; rw [HK9.out, hN1]
        have hbds := HN9.out
        rw [hN1] at hbds
        dsimp only at hbds
        obtain ⟨⟨v1, v2⟩, ⟨v3, v4⟩, v5, v6⟩ := hbds
        have hd0 : 0 ≤ d := by rw [← hd]; exact Int.ediv_nonneg hr0 (by omega)
        have hu0 : 0 ≤ u := by rw [← hu]; exact Int.emod_nonneg _ (by omega)
        have HTB : Hid (TabAt X) := ht1.out.below HBX.out
        have hLne : L ≠ 0 := by omega
        have kd1 : r.tdiv L = d := by rw [Int.tdiv_eq_ediv_of_nonneg hr0]; exact hd
        have kd2 : IntKind.i64.wrap (a + d) = a + d := IntWalk.i64_in _ (by omega)
        have kd3 : IntKind.i64.wrap (a + d + 1) = a + d + 1 := IntWalk.i64_in _ (by omega)
        have kd4 : u.tdiv 960 = e := by rw [Int.tdiv_eq_ediv_of_nonneg hu0]; exact he
        have kd5 : IntKind.i64.wrap (e + 1) = e + 1 := IntWalk.i64_in _ (by omega)
        have kd6 : u.tmod 960 = f := by rw [Int.tmod_eq_emod_of_nonneg hu0]; exact hf
        have kd7 : IntKind.i64.wrap d = d := IntWalk.i64_in _ (by omega)
        have kd8 : IntKind.i64.wrap e = e := IntWalk.i64_in _ (by omega)
        have kd9 : IntKind.i64.wrap f = f := IntWalk.i64_in _ (by omega)
        clear hu hd he hf hf2 hN1 HN9 HK9
        refine wp_region_text 19 (fun x9 => x9.cell? ⟨g8, 0, none⟩ = some (.int .i64 a)) (by kernel_rfl) (by kernel_rfl) ?_
        obtain ⟨wc, hwc⟩ : ∃ x : World, x = X.drew := ⟨_, rfl⟩
        have hbn : Below X.heap.size X X.drew := (Below.refl _ _).drew
        have HTB := Lib.hid (HTB.out.below hbn)
        clear hbn
        have HBc : Hid (Below X.heap.size X wc) := by show Below _ _ _; rw [hwc]; exact (Below.refl _ _).drew
        have hS : wc.cell? ⟨g8, 0, none⟩ = some (.int .i64 a) := by rw [hwc]; exact HX0.out
        have hg_0 : g8 < wc.heap.size := by rw [hwc]; exact hg8X
        rw [← hwc] at HTB
        rw [← hwc]
        clear hwc
        refine HT.take (i := 0) (oi := _) (v := ?_) rfl (by kernel_rfl) (by kernel_rfl) (by decide) (fun _ _ _ h => h) (Or.inl ⟨by rfl, ?_⟩) hS ?_
        rotate_left
        · intro wz
          go_simp
          try with_reducible rfl
        simp only [List.getElem_toArray, List.getElem_cons_succ, List.getElem_cons_zero, Act.put, List.setIfInBounds_toArray, List.set_cons_zero, List.set_cons_succ]
        refine HT.load (i := 1) (oi := _) (v := ?_) rfl (by kernel_rfl) (by kernel_rfl) (by decide) (fun _ _ _ h => h) (by kernel_rfl) (Or.inl ⟨by rfl, ?_⟩) hS ?_
        rotate_left
        · intro wz hwz
          try dsimp only at hwz
          go_simp
          try with_reducible rfl
        simp only [List.getElem_toArray, List.getElem_cons_succ, List.getElem_cons_zero, Act.put, List.setIfInBounds_toArray, List.set_cons_zero, List.set_cons_succ]
        refine HT.take (i := 2) (oi := _) (v := ?_) rfl (by kernel_rfl) (by kernel_rfl) (by decide) (fun _ _ _ h => h) (Or.inl ⟨by rfl, ?_⟩) hS ?_
        rotate_left
        · intro wz
          go_simp
          try with_reducible rfl
        simp only [List.getElem_toArray, List.getElem_cons_succ, List.getElem_cons_zero, Act.put, List.setIfInBounds_toArray, List.set_cons_zero, List.set_cons_succ]
        refine HT.take (i := 3) (oi := _) (v := ?_) rfl (by kernel_rfl) (by kernel_rfl) (by decide) (fun _ _ _ h => h) (Or.inl ⟨by rfl, ?_⟩) hS ?_
        rotate_left
        · intro wz
          go_simp
          try with_reducible rfl
        simp only [List.getElem_toArray, List.getElem_cons_succ, List.getElem_cons_zero, Act.put, List.setIfInBounds_toArray, List.set_cons_zero, List.set_cons_succ]
        refine HT.take (i := 4) (oi := _) (v := ?_) rfl (by kernel_rfl) (by kernel_rfl) (by decide) (fun _ _ _ h => h) (Or.inl ⟨by rfl, ?_⟩) hS ?_
        rotate_left
        · intro wz
          go_simp
          try with_reducible rfl
        simp only [List.getElem_toArray, List.getElem_cons_succ, List.getElem_cons_zero, Act.put, List.setIfInBounds_toArray, List.set_cons_zero, List.set_cons_succ]
        refine HT.take (i := 5) (oi := _) (v := ?_) rfl (by kernel_rfl) (by kernel_rfl) (by decide) (fun _ _ _ h => h) (Or.inl ⟨by rfl, ?_⟩) hS ?_
        rotate_left
        · intro wz
          go_simp
          try with_reducible rfl
        simp only [List.getElem_toArray, List.getElem_cons_succ, List.getElem_cons_zero, Act.put, List.setIfInBounds_toArray, List.set_cons_zero, List.set_cons_succ]
        refine HT.take (i := 6) (oi := _) (v := ?_) rfl (by kernel_rfl) (by kernel_rfl) (by decide) (fun _ _ _ h => h) (Or.inl ⟨by rfl, ?_⟩) hS ?_
        rotate_left
        · intro wz
          go_simp
          try with_reducible rfl
        simp only [List.getElem_toArray, List.getElem_cons_succ, List.getElem_cons_zero, Act.put, List.setIfInBounds_toArray, List.set_cons_zero, List.set_cons_succ]
        refine HT.take (i := 9) (oi := _) (v := ?_) rfl (by kernel_rfl) (by kernel_rfl) (by decide) (fun _ _ _ h => h) (Or.inl ⟨by rfl, ?_⟩) hS ?_
        rotate_left
        · intro wz
          go_simp
          try with_reducible rfl
        simp only [List.getElem_toArray, List.getElem_cons_succ, List.getElem_cons_zero, Act.put, List.setIfInBounds_toArray, List.set_cons_zero, List.set_cons_succ]
        refine HT.take (i := 10) (oi := _) (v := ?_) rfl (by kernel_rfl) (by kernel_rfl) (by decide) (fun _ _ _ h => h) (Or.inl ⟨by rfl, ?_⟩) hS ?_
        rotate_left
        · intro wz
          go_simp
          try with_reducible rfl
        simp only [List.getElem_toArray, List.getElem_cons_succ, List.getElem_cons_zero, Act.put, List.setIfInBounds_toArray, List.set_cons_zero, List.set_cons_succ]
        refine HT.take (i := 11) (oi := _) (v := ?_) rfl (by kernel_rfl) (by kernel_rfl) (by decide) (fun _ _ _ h => h) (Or.inl ⟨by rfl, ?_⟩) hS ?_
        rotate_left
        · intro wz
          go_simp
          try with_reducible rfl
        simp only [List.getElem_toArray, List.getElem_cons_succ, List.getElem_cons_zero, Act.put, List.setIfInBounds_toArray, List.set_cons_zero, List.set_cons_succ]
        refine HT.take (i := 15) (oi := _) (v := ?_) rfl (by kernel_rfl) (by kernel_rfl) (by decide) (fun _ _ _ h => h) (Or.inl ⟨by rfl, ?_⟩) hS ?_
        rotate_left
        · intro wz
          go_simp
          try with_reducible rfl
        simp only [List.getElem_toArray, List.getElem_cons_succ, List.getElem_cons_zero, Act.put, List.setIfInBounds_toArray, List.set_cons_zero, List.set_cons_succ]
        refine HT.take (i := 16) (oi := _) (v := ?_) rfl (by kernel_rfl) (by kernel_rfl) (by decide) (fun _ _ _ h => h) (Or.inl ⟨by rfl, ?_⟩) hS ?_
        rotate_left
        · intro wz
          go_simp
          try with_reducible rfl
        simp only [List.getElem_toArray, List.getElem_cons_succ, List.getElem_cons_zero, Act.put, List.setIfInBounds_toArray, List.set_cons_zero, List.set_cons_succ]
        clear kd1 kd2 kd3 kd4 kd5 kd6 kd7 kd8 kd9
        refine HT.one (i := 7) (o := _) rfl (by kernel_rfl) (by decide) (by rfl) ?_
        intro K hK
        go_simp
        refine (ITOAZ_any (a + d + 1) (by omega) (by omega) _ HTB).mono ?_
        rintro e9 wn ⟨z1, rfl, hz1, HZ1, hbn⟩
        replace HTB := Lib.hid (HTB.out.below hbn)
        have HBn := Lib.hid (HBc.out.trans (hbn.mono HBc.out.size))
        have hSn : wn.cell? ⟨g8, 0, none⟩ = some (.int .i64 a) := (hbn.cell (p := ⟨g8, 0, none⟩) hg_0).trans hS
        have hgn_0 := Nat.lt_of_lt_of_le hg_0 hbn.size
        refine hK.out _ _ hSn ?_
        clear hK K hS HBc hg_0
        try simp only [List.getElem_toArray, List.getElem_cons_succ, List.getElem_cons_zero, Act.put, List.setIfInBounds_toArray, List.set_cons_zero, List.set_cons_succ]
        have hS := hSn
        have HBc := HBn
        have hg_0 := hgn_0
        clear hSn HBn hbn hgn_0
        obtain ⟨wc, rfl⟩ : ∃ x : World, x = wn := ⟨_, rfl⟩
        refine HT.take (i := 8) (oi := _) (v := .string (z1 ++ ⟨#[46]⟩)) rfl (by kernel_rfl) (by kernel_rfl) (by decide) (fun _ _ _ h => h) (Or.inl ⟨by rfl, ?_⟩) hS ?_
        · intro wz
          go_simp
          first | rfl | omega | (rw [if_neg (by omega)])
        simp only [List.getElem_toArray, List.getElem_cons_succ, List.getElem_cons_zero, Act.put, List.setIfInBounds_toArray, List.set_cons_zero, List.set_cons_succ]
        refine HT.one (i := 12) (o := _) rfl (by kernel_rfl) (by decide) (by rfl) ?_
        intro K hK
        go_simp
        refine (ITOAZ_any (e + 1) (by omega) (by omega) _ HTB).mono ?_
        rintro e9 wn ⟨z2, rfl, hz2, HZ2, hbn⟩
        replace HTB := Lib.hid (HTB.out.below hbn)
        have HBn := Lib.hid (HBc.out.trans (hbn.mono HBc.out.size))
        have hSn : wn.cell? ⟨g8, 0, none⟩ = some (.int .i64 a) := (hbn.cell (p := ⟨g8, 0, none⟩) hg_0).trans hS
        have hgn_0 := Nat.lt_of_lt_of_le hg_0 hbn.size
        refine hK.out _ _ hSn ?_
        clear hK K hS HBc hg_0
        try simp only [List.getElem_toArray, List.getElem_cons_succ, List.getElem_cons_zero, Act.put, List.setIfInBounds_toArray, List.set_cons_zero, List.set_cons_succ]
        have hS := hSn
        have HBc := HBn
        have hg_0 := hgn_0
        clear hSn HBn hbn hgn_0
        obtain ⟨wc, rfl⟩ : ∃ x : World, x = wn := ⟨_, rfl⟩
        refine HT.take (i := 13) (oi := _) (v := .string (z1 ++ ⟨#[46]⟩ ++ z2)) rfl (by kernel_rfl) (by kernel_rfl) (by decide) (fun _ _ _ h => h) (Or.inl ⟨by rfl, ?_⟩) hS ?_
        · intro wz
          go_simp
          first | rfl | omega | (rw [if_neg (by omega)])
        simp only [List.getElem_toArray, List.getElem_cons_succ, List.getElem_cons_zero, Act.put, List.setIfInBounds_toArray, List.set_cons_zero, List.set_cons_succ]
        refine HT.take (i := 14) (oi := _) (v := .string (z1 ++ ⟨#[46]⟩ ++ z2 ++ ⟨#[46]⟩)) rfl (by kernel_rfl) (by kernel_rfl) (by decide) (fun _ _ _ h => h) (Or.inl ⟨by rfl, ?_⟩) hS ?_
        · intro wz
          go_simp
          first | rfl | omega | (rw [if_neg (by omega)])
        simp only [List.getElem_toArray, List.getElem_cons_succ, List.getElem_cons_zero, Act.put, List.setIfInBounds_toArray, List.set_cons_zero, List.set_cons_succ]
        refine HT.one (i := 17) (o := _) rfl (by kernel_rfl) (by decide) (by rfl) ?_
        intro K hK
        go_simp
        refine (ITOAZ_any f (by omega) (by omega) _ HTB).mono ?_
        rintro e9 wn ⟨z3, rfl, hz3, HZ3, hbn⟩
        replace HTB := Lib.hid (HTB.out.below hbn)
        have HBn := Lib.hid (HBc.out.trans (hbn.mono HBc.out.size))
        have hSn : wn.cell? ⟨g8, 0, none⟩ = some (.int .i64 a) := (hbn.cell (p := ⟨g8, 0, none⟩) hg_0).trans hS
        have hgn_0 := Nat.lt_of_lt_of_le hg_0 hbn.size
        refine hK.out _ _ hSn ?_
        clear hK K hS HBc hg_0
        try simp only [List.getElem_toArray, List.getElem_cons_succ, List.getElem_cons_zero, Act.put, List.setIfInBounds_toArray, List.set_cons_zero, List.set_cons_succ]
        have hS := hSn
        have HBc := HBn
        have hg_0 := hgn_0
        clear hSn HBn hbn hgn_0
        obtain ⟨wc, rfl⟩ : ∃ x : World, x = wn := ⟨_, rfl⟩
        refine HT.take (i := 18) (oi := _) (v := .string (z1 ++ ⟨#[46]⟩ ++ z2 ++ ⟨#[46]⟩ ++ z3)) rfl (by kernel_rfl) (by kernel_rfl) (by decide) (fun _ _ _ h => h) (Or.inl ⟨by rfl, ?_⟩) hS ?_
        · intro wz
          go_simp
          first | rfl | omega | (rw [if_neg (by omega)])
        simp only [List.getElem_toArray, List.getElem_cons_succ, List.getElem_cons_zero, Act.put, List.setIfInBounds_toArray, List.set_cons_zero, List.set_cons_succ]
        refine HT.done (by kernel_rfl) ?_
        clear hS
        simp only [List.drop_succ_cons, List.drop_zero]
        go_wp2_with fail
        refine bodyPost_ret (v := .tuple #[.string (z1 ++ ⟨#[46]⟩ ++ z2 ++ ⟨#[46]⟩ ++ z3), .int .i64 0]) (by simp [results, Tryd.results6, go_sem]) rfl ?_
        rw [HV.out]
        refine ⟨_, rfl, ?_, HB1.out.trans ((HBX.out.trans (HBc.out.mono HBX.out.size)).mono (by have := HB1.out.size; omega))⟩
        dsimp only
        rw [HBT.out]
        simp only [ByteArray.data_append, Array.toList_append, HZ1.out, HZ2.out, HZ3.out]
        simp [txt3]
    · have hkf : decide ((k : Int) + 1 < (n' : Int)) = false := by simp; omega
      have hhi : k + 1 < ms.length → t < begZ ms (k + 1) := fun h => absurd h (by rw [hl'.out]; exact hk1)
      have HK9 := Lib.hid (HBK.out hhi)
      have HN9 := Lib.hid (HBN.out hhi)
      have HBX := HBW1
      have HX0 : Hid (W.cell? ⟨g8, 0, none⟩ = some (.int .i64 a)) := HX01.out.1
      have hg8X := hHH8
      obtain ⟨X, rfl⟩ : ∃ x : World, x = W := ⟨_, rfl⟩
      clear hhi HBK HBN HBAR x0 x1 HNX
      go_upto_region 15 with (fail)
      obtain ⟨u, hu⟩ : ∃ u, r % L = u := ⟨_, rfl⟩
      rw [hu]
      obtain ⟨d, hd⟩ : ∃ d, r / L = d := ⟨_, rfl⟩
      obtain ⟨e, he⟩ : ∃ e, u / 960 = e := ⟨_, rfl⟩
      obtain ⟨f, hf⟩ : ∃ f, u % 960 = f := ⟨_, rfl⟩
      have hf2 : r % 960 = f := by
        rw [← hf, ← hu]
        exact (Int.emod_emod_of_dvd r (⟨m, by have := HLL.out; omega⟩ : (960 : Int) ∣ L)).symm
      have hN1 : barN ms t k = (a + d + 1, e + 1, f) := by
        unfold barN
        rw [HP.out, HR.out]
        dsimp only
        rw [HLL.out, hu, hd, he, hf2]
      have HBT : Hid (barTxt ms t = txt3 (a + d + 1).toNat (e + 1).toNat f.toNat) := by show _ = _; unfold barTxt; rw [HK9.out, hN1]
      have hbds := HN9.out
      rw [hN1] at hbds
      dsimp only at hbds
      obtain ⟨⟨v1, v2⟩, ⟨v3, v4⟩, v5, v6⟩ := hbds
      have hd0 : 0 ≤ d := by rw [← hd]; exact Int.ediv_nonneg hr0 (by omega)
      have hu0 : 0 ≤ u := by rw [← hu]; exact Int.emod_nonneg _ (by omega)
      have HTB : Hid (TabAt X) := ht1.out.below HBX.out
      have hLne : L ≠ 0 := by omega
      have kd1 : r.tdiv L = d := by rw [Int.tdiv_eq_ediv_of_nonneg hr0]; exact hd
      have kd2 : IntKind.i64.wrap (a + d) = a + d := IntWalk.i64_in _ (by omega)
      have kd3 : IntKind.i64.wrap (a + d + 1) = a + d + 1 := IntWalk.i64_in _ (by omega)
      have kd4 : u.tdiv 960 = e := by rw [Int.tdiv_eq_ediv_of_nonneg hu0]; exact he
      have kd5 : IntKind.i64.wrap (e + 1) = e + 1 := IntWalk.i64_in _ (by omega)
      have kd6 : u.tmod 960 = f := by rw [Int.tmod_eq_emod_of_nonneg hu0]; exact hf
      have kd7 : IntKind.i64.wrap d = d := IntWalk.i64_in _ (by omega)
      have kd8 : IntKind.i64.wrap e = e := IntWalk.i64_in _ (by omega)
      have kd9 : IntKind.i64.wrap f = f := IntWalk.i64_in _ (by omega)
      clear hu hd he hf hf2 hN1 HN9 HK9
      refine wp_region_text 19 (fun x9 => x9.cell? ⟨g8, 0, none⟩ = some (.int .i64 a)) (by kernel_rfl) (by kernel_rfl) ?_
      obtain ⟨wc, hwc⟩ : ∃ x : World, x = X.drew := ⟨_, rfl⟩
      have hbn : Below X.heap.size X X.drew := (Below.refl _ _).drew
      have HTB := Lib.hid (HTB.out.below hbn)
      clear hbn
      have HBc : Hid (Below X.heap.size X wc) := by show Below _ _ _; rw [hwc]; exact (Below.refl _ _).drew
      have hS : wc.cell? ⟨g8, 0, none⟩ = some (.int .i64 a) := by rw [hwc]; exact HX0.out
      have hg_0 : g8 < wc.heap.size := by rw [hwc]; exact hg8X
      rw [← hwc] at HTB
      rw [← hwc]
      clear hwc
      refine HT.take (i := 0) (oi := _) (v := ?_) rfl (by kernel_rfl) (by kernel_rfl) (by decide) (fun _ _ _ h => h) (Or.inl ⟨by rfl, ?_⟩) hS ?_
      rotate_left
      · intro wz
        go_simp
        try with_reducible rfl
      simp only [List.getElem_toArray, List.getElem_cons_succ, List.getElem_cons_zero, Act.put, List.setIfInBounds_toArray, List.set_cons_zero, List.set_cons_succ]
      refine HT.load (i := 1) (oi := _) (v := ?_) rfl (by kernel_rfl) (by kernel_rfl) (by decide) (fun _ _ _ h => h) (by kernel_rfl) (Or.inl ⟨by rfl, ?_⟩) hS ?_
      rotate_left
      · intro wz hwz
        try dsimp only at hwz
        go_simp
        try with_reducible rfl
      simp only [List.getElem_toArray, List.getElem_cons_succ, List.getElem_cons_zero, Act.put, List.setIfInBounds_toArray, List.set_cons_zero, List.set_cons_succ]
      refine HT.take (i := 2) (oi := _) (v := ?_) rfl (by kernel_rfl) (by kernel_rfl) (by decide) (fun _ _ _ h => h) (Or.inl ⟨by rfl, ?_⟩) hS ?_
      rotate_left
      · intro wz
        go_simp
        try with_reducible rfl
      simp only [List.getElem_toArray, List.getElem_cons_succ, List.getElem_cons_zero, Act.put, List.setIfInBounds_toArray, List.set_cons_zero, List.set_cons_succ]
      refine HT.take (i := 3) (oi := _) (v := ?_) rfl (by kernel_rfl) (by kernel_rfl) (by decide) (fun _ _ _ h => h) (Or.inl ⟨by rfl, ?_⟩) hS ?_
      rotate_left
      · intro wz
        go_simp
        try with_reducible rfl
      simp only [List.getElem_toArray, List.getElem_cons_succ, List.getElem_cons_zero, Act.put, List.setIfInBounds_toArray, List.set_cons_zero, List.set_cons_succ]
      refine HT.take (i := 4) (oi := _) (v := ?_) rfl (by kernel_rfl) (by kernel_rfl) (by decide) (fun _ _ _ h => h) (Or.inl ⟨by rfl, ?_⟩) hS ?_
      rotate_left
      · intro wz
        go_simp
        try with_reducible rfl
      simp only [List.getElem_toArray, List.getElem_cons_succ, List.getElem_cons_zero, Act.put, List.setIfInBounds_toArray, List.set_cons_zero, List.set_cons_succ]
      refine HT.take (i := 5) (oi := _) (v := ?_) rfl (by kernel_rfl) (by kernel_rfl) (by decide) (fun _ _ _ h => h) (Or.inl ⟨by rfl, ?_⟩) hS ?_
      rotate_left
      · intro wz
        go_simp
        try with_reducible rfl
      simp only [List.getElem_toArray, List.getElem_cons_succ, List.getElem_cons_zero, Act.put, List.setIfInBounds_toArray, List.set_cons_zero, List.set_cons_succ]
      refine HT.take (i := 6) (oi := _) (v := ?_) rfl (by kernel_rfl) (by kernel_rfl) (by decide) (fun _ _ _ h => h) (Or.inl ⟨by rfl, ?_⟩) hS ?_
      rotate_left
      · intro wz
        go_simp
        try with_reducible rfl
      simp only [List.getElem_toArray, List.getElem_cons_succ, List.getElem_cons_zero, Act.put, List.setIfInBounds_toArray, List.set_cons_zero, List.set_cons_succ]
      refine HT.take (i := 9) (oi := _) (v := ?_) rfl (by kernel_rfl) (by kernel_rfl) (by decide) (fun _ _ _ h => h) (Or.inl ⟨by rfl, ?_⟩) hS ?_
      rotate_left
      · intro wz
        go_simp
        try with_reducible rfl
      simp only [List.getElem_toArray, List.getElem_cons_succ, List.getElem_cons_zero, Act.put, List.setIfInBounds_toArray, List.set_cons_zero, List.set_cons_succ]
      refine HT.take (i := 10) (oi := _) (v := ?_) rfl (by kernel_rfl) (by kernel_rfl) (by decide) (fun _ _ _ h => h) (Or.inl ⟨by rfl, ?_⟩) hS ?_
      rotate_left
      · intro wz
        go_simp
        try with_reducible rfl
      simp only [List.getElem_toArray, List.getElem_cons_succ, List.getElem_cons_zero, Act.put, List.setIfInBounds_toArray, List.set_cons_zero, List.set_cons_succ]
      refine HT.take (i := 11) (oi := _) (v := ?_) rfl (by kernel_rfl) (by kernel_rfl) (by decide) (fun _ _ _ h => h) (Or.inl ⟨by rfl, ?_⟩) hS ?_
      rotate_left
      · intro wz
        go_simp
        try with_reducible rfl
      simp only [List.getElem_toArray, List.getElem_cons_succ, List.getElem_cons_zero, Act.put, List.setIfInBounds_toArray, List.set_cons_zero, List.set_cons_succ]
      refine HT.take (i := 15) (oi := _) (v := ?_) rfl (by kernel_rfl) (by kernel_rfl) (by decide) (fun _ _ _ h => h) (Or.inl ⟨by rfl, ?_⟩) hS ?_
      rotate_left
      · intro wz
        go_simp
        try with_reducible rfl
      simp only [List.getElem_toArray, List.getElem_cons_succ, List.getElem_cons_zero, Act.put, List.setIfInBounds_toArray, List.set_cons_zero, List.set_cons_succ]
      refine HT.take (i := 16) (oi := _) (v := ?_) rfl (by kernel_rfl) (by kernel_rfl) (by decide) (fun _ _ _ h => h) (Or.inl ⟨by rfl, ?_⟩) hS ?_
      rotate_left
      · intro wz
        go_simp
        try with_reducible rfl
      simp only [List.getElem_toArray, List.getElem_cons_succ, List.getElem_cons_zero, Act.put, List.setIfInBounds_toArray, List.set_cons_zero, List.set_cons_succ]
      clear kd1 kd2 kd3 kd4 kd5 kd6 kd7 kd8 kd9
      refine HT.one (i := 7) (o := _) rfl (by kernel_rfl) (by decide) (by rfl) ?_
      intro K hK
      go_simp
      refine (ITOAZ_any (a + d + 1) (by omega) (by omega) _ HTB).mono ?_
      rintro e9 wn ⟨z1, rfl, hz1, HZ1, hbn⟩
      replace HTB := Lib.hid (HTB.out.below hbn)
      have HBn := Lib.hid (HBc.out.trans (hbn.mono HBc.out.size))
      have hSn : wn.cell? ⟨g8, 0, none⟩ = some (.int .i64 a) := (hbn.cell (p := ⟨g8, 0, none⟩) hg_0).trans hS
      have hgn_0 := Nat.lt_of_lt_of_le hg_0 hbn.size
      refine hK.out _ _ hSn ?_
      clear hK K hS HBc hg_0
      try simp only [List.getElem_toArray, List.getElem_cons_succ, List.getElem_cons_zero, Act.put, List.setIfInBounds_toArray, List.set_cons_zero, List.set_cons_succ]
      have hS := hSn
      have HBc := HBn
      have hg_0 := hgn_0
      clear hSn HBn hbn hgn_0
      obtain ⟨wc, rfl⟩ : ∃ x : World, x = wn := ⟨_, rfl⟩
      refine HT.take (i := 8) (oi := _) (v := .string (z1 ++ ⟨#[46]⟩)) rfl (by kernel_rfl) (by kernel_rfl) (by decide) (fun _ _ _ h => h) (Or.inl ⟨by rfl, ?_⟩) hS ?_
      · intro wz
        go_simp
        first | rfl | omega | (rw [if_neg (by omega)])
      simp only [List.getElem_toArray, List.getElem_cons_succ, List.getElem_cons_zero, Act.put, List.setIfInBounds_toArray, List.set_cons_zero, List.set_cons_succ]
      refine HT.one (i := 12) (o := _) rfl (by kernel_rfl) (by decide) (by rfl) ?_
      intro K hK
      go_simp
      refine (ITOAZ_any (e + 1) (by omega) (by omega) _ HTB).mono ?_
      rintro e9 wn ⟨z2, rfl, hz2, HZ2, hbn⟩
      replace HTB := Lib.hid (HTB.out.below hbn)
      have HBn := Lib.hid (HBc.out.trans (hbn.mono HBc.out.size))
      have hSn : wn.cell? ⟨g8, 0, none⟩ = some (.int .i64 a) := (hbn.cell (p := ⟨g8, 0, none⟩) hg_0).trans hS
      have hgn_0 := Nat.lt_of_lt_of_le hg_0 hbn.size
      refine hK.out _ _ hSn ?_
      clear hK K hS HBc hg_0
      try simp only [List.getElem_toArray, List.getElem_cons_succ, List.getElem_cons_zero, Act.put, List.setIfInBounds_toArray, List.set_cons_zero, List.set_cons_succ]
      have hS := hSn
      have HBc := HBn
      have hg_0 := hgn_0
      clear hSn HBn hbn hgn_0
      obtain ⟨wc, rfl⟩ : ∃ x : World, x = wn := ⟨_, rfl⟩
      refine HT.take (i := 13) (oi := _) (v := .string (z1 ++ ⟨#[46]⟩ ++ z2)) rfl (by kernel_rfl) (by kernel_rfl) (by decide) (fun _ _ _ h => h) (Or.inl ⟨by rfl, ?_⟩) hS ?_
      · intro wz
        go_simp
        first | rfl | omega | (rw [if_neg (by omega)])
      simp only [List.getElem_toArray, List.getElem_cons_succ, List.getElem_cons_zero, Act.put, List.setIfInBounds_toArray, List.set_cons_zero, List.set_cons_succ]
      refine HT.take (i := 14) (oi := _) (v := .string (z1 ++ ⟨#[46]⟩ ++ z2 ++ ⟨#[46]⟩)) rfl (by kernel_rfl) (by kernel_rfl) (by decide) (fun _ _ _ h => h) (Or.inl ⟨by rfl, ?_⟩) hS ?_
      · intro wz
        go_simp
        first | rfl | omega | (rw [if_neg (by omega)])
      simp only [List.getElem_toArray, List.getElem_cons_succ, List.getElem_cons_zero, Act.put, List.setIfInBounds_toArray, List.set_cons_zero, List.set_cons_succ]
      refine HT.one (i := 17) (o := _) rfl (by kernel_rfl) (by decide) (by rfl) ?_
      intro K hK
      go_simp
      refine (ITOAZ_any f (by omega) (by omega) _ HTB).mono ?_
      rintro e9 wn ⟨z3, rfl, hz3, HZ3, hbn⟩
      replace HTB := Lib.hid (HTB.out.below hbn)
      have HBn := Lib.hid (HBc.out.trans (hbn.mono HBc.out.size))
      have hSn : wn.cell? ⟨g8, 0, none⟩ = some (.int .i64 a) := (hbn.cell (p := ⟨g8, 0, none⟩) hg_0).trans hS
      have hgn_0 := Nat.lt_of_lt_of_le hg_0 hbn.size
      refine hK.out _ _ hSn ?_
      clear hK K hS HBc hg_0
      try simp only [List.getElem_toArray, List.getElem_cons_succ, List.getElem_cons_zero, Act.put, List.setIfInBounds_toArray, List.set_cons_zero, List.set_cons_succ]
      have hS := hSn
      have HBc := HBn
      have hg_0 := hgn_0
      clear hSn HBn hbn hgn_0
      obtain ⟨wc, rfl⟩ : ∃ x : World, x = wn := ⟨_, rfl⟩
      refine HT.take (i := 18) (oi := _) (v := .string (z1 ++ ⟨#[46]⟩ ++ z2 ++ ⟨#[46]⟩ ++ z3)) rfl (by kernel_rfl) (by kernel_rfl) (by decide) (fun _ _ _ h => h) (Or.inl ⟨by rfl, ?_⟩) hS ?_
      · intro wz
        go_simp
        first | rfl | omega | (rw [if_neg (by omega)])
      simp only [List.getElem_toArray, List.getElem_cons_succ, List.getElem_cons_zero, Act.put, List.setIfInBounds_toArray, List.set_cons_zero, List.set_cons_succ]
      refine HT.done (by kernel_rfl) ?_
      clear hS
      simp only [List.drop_succ_cons, List.drop_zero]
      go_wp2_with fail
      refine bodyPost_ret (v := .tuple #[.string (z1 ++ ⟨#[46]⟩ ++ z2 ++ ⟨#[46]⟩ ++ z3), .int .i64 0]) (by simp [results, Tryd.results6, go_sem]) rfl ?_
      rw [HV.out]
      refine ⟨_, rfl, ?_, HB1.out.trans ((HBX.out.trans (HBc.out.mono HBX.out.size)).mono (by have := HB1.out.size; omega))⟩
      dsimp only
      rw [HBT.out]
      simp only [ByteArray.data_append, Array.toList_append, HZ1.out, HZ2.out, HZ3.out]
      simp [txt3]
end Go.Proofs.YthgjgiccoobcgaaDoor
