/- The document's BarOf. -/
import Derived.Test.YthgjgiccoobcgaaDoorRbg
import Derived.Test.YthgjgiccoobcgaaDoorRct
set_option linter.unusedSimpArgs false
set_option linter.unusedVariables false
namespace Go.Proofs.YthgjgiccoobcgaaDoor
open Go.RowKit Go.Dw Go.Joins
theorem RBEGIN_succ (A A' : Option Addr) (n c n' c' : Nat) (ms : List Pr) (HM : Hid (MetOk ms)) (j : Nat) (w : World) (B : Nat) (hB : B ≤ w.heap.size) (hj : j + 1 < n') (hh' : Hid (PrsAt w B A' n' ms)) :
    Calls Tryd.prog 24 #[.agg #[.slice A n c, .slice A' n' c'], .int .i64 ((j : Int) + 1)] w fun e w' => e = .returned (.int .i64 (begZ ms (j + 1))) ∧ Below w.heap.size w w' := by
  have := RBEGIN_any A A' n c n' c' ms HM (j + 1) w B hB hj hh'
  rwa [Int.natCast_succ] at this
set_option maxRecDepth 100000 in
set_option maxHeartbeats 8000000 in
theorem RBAROF_any (A A' : Option Addr) (n c n' c' : Nat) (l ms : List Pr) (t : Int) (w : World) (ht : Hid (TabAt w)) (B : Nat) (hB : B ≤ w.heap.size) (hh : Hid (PrsAt w B A n l)) (hh' : Hid (PrsAt w B A' n' ms)) :
    Calls Tryd.prog 7 #[.agg #[.slice A n c, .slice A' n' c'], .int .i64 t] w fun e w' => ∃ z : ByteArray, e = .returned (.tuple #[.string z, .int .i64 (barS l ms t).2]) ∧ z.data.toList = (barS l ms t).1 ∧ Below w.heap.size w w' := by
  have hl' := Lib.hid hh'.out.1
  obtain ⟨W, gx, hW, hgx, HHW, HBW, HSW⟩ := cell_new0 w 25 #[.slice A n c, .slice A' n' c']
  obtain ⟨b0, b1, _, _⟩ := pr_cells HHW.out
  have hhW : Hid (PrsAt W B A n l) := hh.out.below HBW.out hB
  have hhW' : Hid (PrsAt W B A' n' ms) := hh'.out.below HBW.out hB
  have hBW : B ≤ W.heap.size := by have := HBW.out.size; omega
  have hgw := blk_lt HHW.out
  obtain ⟨x, hx⟩ : ∃ x, chkT l ms = x := ⟨_, rfl⟩
  have HX := Lib.hid hx
  have HCC := Lib.hid (And.intro b0 b1)
  clear hx
  by_cases h0 : x = 0
  rotate_left
  · have hq : ((x : Int) != 0) = true := by simpa using h0
    have HV : Hid (barS l ms t = ([], x)) := by show _ = _; unfold barS; rw [HX.out, if_pos h0]
    go_enter Tryd.func7, Tryd.ntmps7
    go_upto_region 1 with (fail)
    rw [← hW, ← hgx]
    clear hW hgx
    go_wp2_with (go_at_call 23; refine (RCHECKTEMPO_any A A' n c n' c' l ms _ B hBW hhW hhW').mono ?_; rintro e w1 ⟨rfl, hb1⟩; rw [HX.out])
    refine bodyPost_ret (v := .tuple #[.string ⟨#[]⟩, .int .i64 x]) (by simp [results, Tryd.results7, go_sem]) rfl ?_
    rw [HV.out]
    exact ⟨_, rfl, rfl, HBW.out.trans (hb1.mono HBW.out.size)⟩
  subst h0
  have HM := Lib.hid (chkT_met HX.out)
  go_enter Tryd.func7, Tryd.ntmps7
  go_upto_region 1 with (fail)
  rw [← hW, ← hgx]
  clear hW hgx
  go_upto_region 4 with (go_at_call 23; refine (RCHECKTEMPO_any A A' n c n' c' l ms _ B hBW hhW hhW').mono ?_; rintro e w1 ⟨rfl, hb1⟩; rw [HX.out])
  have hs1 := hb1.size
  have HB1 := Lib.hid (HBW.out.trans (hb1.mono HBW.out.size))
  have HC1 : Hid (w1.cell? ⟨gx, 0, none⟩ = some (.slice A n c) ∧ w1.cell? ⟨gx, 1, none⟩ = some (.slice A' n' c')) := ⟨(hb1.cell (p := ⟨gx, 0, none⟩) hgw).trans HCC.out.1, (hb1.cell (p := ⟨gx, 1, none⟩) hgw).trans HCC.out.2⟩
  have hg1 : gx < w1.heap.size := by omega
  have hh1 : Hid (PrsAt w1 B A' n' ms) := hhW'.out.below hb1 hBW
  have hB1 : B ≤ w1.heap.size := by omega
  clear b0 b1 hb1 HBW hgw hhW hhW' HHW HSW
  by_cases h1 : t < 0
  · have HV : Hid (barS l ms t = ([], 1)) := by show _ = _; unfold barS; rw [HX.out, if_neg (by simp), if_pos (.inl h1)]
    go_wp2_with fail
    refine bodyPost_ret (v := .tuple #[.string ⟨#[]⟩, .int .i64 1]) (by simp [results, Tryd.results7, go_sem]) rfl ?_
    rw [HV.out]
    exact ⟨_, rfl, rfl, HB1.out⟩
  by_cases h2 : 1000000000 < t
  · have HV : Hid (barS l ms t = ([], 1)) := by show _ = _; unfold barS; rw [HX.out, if_neg (by simp), if_pos (.inr h2)]
    have h10 : 0 ≤ t := by omega
    go_wp2_with fail
    refine bodyPost_ret (v := .tuple #[.string ⟨#[]⟩, .int .i64 1]) (by simp [results, Tryd.results7, go_sem]) rfl ?_
    rw [HV.out]
    exact ⟨_, rfl, rfl, HB1.out⟩
  have HV : Hid (barS l ms t = (barTxt ms t, 0)) := by show _ = _; unfold barS; rw [HX.out, if_neg (by simp), if_neg (by omega)]
  have h10 : 0 ≤ t := by omega
  have h20 : t ≤ 1000000000 := by omega
  have hpos : 0 < n' := by rw [← hl'.out]; exact HM.out.pos
  have hfew : n' ≤ 200 := by rw [← hl'.out]; exact HM.out.few
  obtain ⟨W1, rfl⟩ : ∃ X : World, X = w1 := ⟨_, rfl⟩
  clear h1 h2
  go_upto_block 0 with (fail)
  go_cut [7] (fun v wx => ∃ k : Nat, v = .int .i64 k ∧ Hid (IsBar ms t k) ∧ Hid (Below W1.heap.size W1 wx))
  case first =>
    go_wp2_with fail
    go_loopw [7] (fun v wr => ∃ k : Nat, k < n' ∧ v = .int .i64 k ∧ Hid (begZ ms k ≤ t) ∧ Hid (Below W1.heap.size W1 wr)) (fun v _ => n' - (intOf v).toNat)
    case atStart => exact ⟨0, hpos, rfl, h10, Below.refl _ _⟩
    case round =>
      obtain ⟨k, hk, rfl, HL, hb⟩ := hrel
      have hx0 := (hb.out.cell (p := ⟨gx, 0, none⟩) hg1).trans HC1.out.1
      have hx1 := (hb.out.cell (p := ⟨gx, 1, none⟩) hg1).trans HC1.out.2
      have hsr := hb.out.size
      have hh5 : Hid (PrsAt wr B A' n' ms) := hh1.out.below hb.out hB1
      have hB5 : B ≤ wr.heap.size := by omega
      have hk0 : (0 : Int) ≤ (k : Int) := by omega
      have hkl : k < ms.length := by rw [hl'.out]; exact hk
      by_cases hk1 : k + 1 < n'
      · have hkI : (k : Int) + 1 < (n' : Int) := by omega
        obtain ⟨bz, hbz⟩ : ∃ z, begZ ms (k + 1) = z := ⟨_, rfl⟩
        have HBZ := Lib.hid hbz
        clear hbz
        by_cases hle : bz ≤ t
        · have HL2 : Hid (begZ ms (k + 1) ≤ t) := by show _ ≤ _; rw [HBZ.out]; exact hle
          go_wp2_with (go_at_call 24; refine (RBEGIN_succ A A' n c n' c' ms HM k _ B hB5 hk1 hh5).mono ?_; rintro e w6 ⟨rfl, hb6⟩; rw [HBZ.out])
          have HB6 := Lib.hid (hb.out.trans (hb6.mono hsr))
          go_roundw
          case rel => exact ⟨k + 1, hk1, by go_num, HL2, HB6⟩
          case measure => simp [intOf]; omega
        · have HI : Hid (IsBar ms t k) := ⟨hkl, HL.out, fun _ => by rw [HBZ.out]; omega⟩
          have hlf : decide (bz ≤ t) = false := decide_eq_false hle
          clear hle
          go_wp2_with (go_at_call 24; refine (RBEGIN_succ A A' n c n' c' ms HM k _ B hB5 hk1 hh5).mono ?_; rintro e w6 ⟨rfl, hb6⟩; rw [HBZ.out])
          have HB6 := Lib.hid (hb.out.trans (hb6.mono hsr))
          go_meet
          exact ⟨k, rfl, HI, HB6⟩
      · have hkf : decide ((k : Int) + 1 < (n' : Int)) = false := by simp; omega
        have HI : Hid (IsBar ms t k) := ⟨hkl, HL.out, fun h => absurd h (by rw [hl'.out]; exact hk1)⟩
        go_wp2_with fail
        go_meet
        exact ⟨k, rfl, HI, hb⟩
  case rest =>
  obtain ⟨k, rfl, HI, HBV⟩ := hcut
  obtain ⟨V, rfl⟩ : ∃ x : World, x = wc := ⟨_, rfl⟩
  have hsV := HBV.out.size
  have hx0 := (HBV.out.cell (p := ⟨gx, 0, none⟩) hg1).trans HC1.out.1
  have hx1 := (HBV.out.cell (p := ⟨gx, 1, none⟩) hg1).trans HC1.out.2
  have hh5 : Hid (PrsAt V B A' n' ms) := hh1.out.below HBV.out hB1
  have hB5 : B ≤ V.heap.size := by omega
  have hkl := HI.out.lt
  have hkn9 : k < n' := by rw [← hl'.out]; exact hkl
  have hbd := beg_nonneg HM.out hkl
  have hbt := HI.out.low
  obtain ⟨bz, hbz⟩ : ∃ z, begZ ms k = z := ⟨_, rfl⟩
  have HBZ := Lib.hid hbz
  rw [hbz] at hbd hbt
  obtain ⟨r, hr⟩ : ∃ r, t - bz = r := ⟨_, rfl⟩
  have HR : Hid (t - begZ ms k = r) := by show _ = _; rw [hbz]; exact hr
  have hr0 : 0 ≤ r := by omega
  have hr1 : r ≤ 1000000000 := by omega
  have hk0 : (0 : Int) ≤ (k : Int) := by omega
  clear hbz
  go_upto_region 10 with (go_at_call 24; refine (RBEGIN_any A A' n c n' c' ms HM k _ B hB5 hkn9 hh5).mono ?_; rintro e w6 ⟨rfl, hb6⟩; rw [HBZ.out])
  try rw [hr]
  obtain ⟨X, rfl⟩ : ∃ x : World, x = w6 := ⟨_, rfl⟩
  have HBX := Lib.hid (HB1.out.trans ((HBV.out.trans (hb6.mono hsV)).mono HB1.out.size))
  replace hx0 := (hb6.cell (p := ⟨gx, 0, none⟩) (show gx < V.heap.size by omega)).trans hx0
  replace hx1 := (hb6.cell (p := ⟨gx, 1, none⟩) (show gx < V.heap.size by omega)).trans hx1
  have hgX : gx < X.heap.size := by have := hb6.size; omega
  obtain ⟨bA, oA, rfl, hbA, k1, k2⟩ := (hh5.out.below hb6 hB5).2 k hkn9
  have hbX : bA < X.heap.size := by have := hb6.size; omega
  obtain ⟨⟨a1, a2⟩, m1, m2⟩ := HM.out.rng k hkl
  obtain ⟨p, hp⟩ : ∃ p, prOf ms k = p := ⟨_, rfl⟩
  obtain ⟨a, m⟩ := p
  have HP := Lib.hid hp
  rw [hp] at k1 k2 a1 a2 m1 m2
  dsimp only at k1 k2 a1 a2 m1 m2
  have hkn : (k : Int) < (n' : Int) := by omega
  clear hp hr hb6
  go_upto_region 11 with (fail)
  obtain ⟨L, hL⟩ : ∃ L, m * 960 = L := ⟨_, rfl⟩
  rw [hL]
  have hL1 : 960 ≤ L := by omega
  have hL2 : L ≤ 30720 := by omega
  have HLL := Lib.hid hL
  clear hL
  obtain ⟨u, hu⟩ : ∃ u, r % L = u := ⟨_, rfl⟩
  obtain ⟨d, hd⟩ : ∃ d, r / L = d := ⟨_, rfl⟩
  obtain ⟨e, he⟩ : ∃ e, u / 960 = e := ⟨_, rfl⟩
  obtain ⟨f, hf⟩ : ∃ f, r % 960 = f := ⟨_, rfl⟩
  have hN1 : barN ms t k = (a + d + 1, e + 1, f) := by
    unfold barN
    rw [HP.out, HR.out]
    dsimp only
    rw [HLL.out, hu, hd, he, hf]
  have HBT : Hid (barTxt ms t = txt3 (a + d + 1).toNat (e + 1).toNat f.toNat) := by show _ = _; unfold barTxt; rw [barK_eq HM.out h10 HI.out, hN1]
  have hbds := barN_bd HM.out h10 h20 HI.out
  rw [hN1] at hbds
  dsimp only at hbds
  obtain ⟨⟨v1, v2⟩, ⟨v3, v4⟩, v5, v6⟩ := hbds
  have hd0 : 0 ≤ d := by rw [← hd]; exact Int.ediv_nonneg hr0 (by omega)
  have hu0 : 0 ≤ u := by rw [← hu]; exact Int.emod_nonneg _ (by omega)
  have hu1 : u < L := by rw [← hu]; exact Int.emod_lt_of_pos _ (by omega)
  have HTB : Hid (TabAt X) := ht.out.below HBX.out
  have hLne : L ≠ 0 := by omega
  have kd1 : r.tdiv L = d := by rw [Int.tdiv_eq_ediv_of_nonneg hr0]; exact hd
  have kd2 : IntKind.i64.wrap (a + d) = a + d := IntWalk.i64_in _ (by omega)
  have kd3 : IntKind.i64.wrap (a + d + 1) = a + d + 1 := IntWalk.i64_in _ (by omega)
  have kd4 : u.tdiv 960 = e := by rw [Int.tdiv_eq_ediv_of_nonneg hu0]; exact he
  have kd5 : IntKind.i64.wrap (e + 1) = e + 1 := IntWalk.i64_in _ (by omega)
  have kd6 : r.tmod 960 = f := by rw [Int.tmod_eq_emod_of_nonneg hr0]; exact hf
  have kda : r.tmod L = u := by rw [Int.tmod_eq_emod_of_nonneg hr0]; exact hu
  have kd7 : IntKind.i64.wrap d = d := IntWalk.i64_in _ (by omega)
  have kd8 : IntKind.i64.wrap e = e := IntWalk.i64_in _ (by omega)
  have kd9 : IntKind.i64.wrap f = f := IntWalk.i64_in _ (by omega)
  have kdb : IntKind.i64.wrap u = u := IntWalk.i64_in _ (by omega)
  clear hu hd he hf hN1
  refine wp_region_text 25 (fun x9 => x9.cell? ⟨gx, 1, none⟩ = some (.slice (some ⟨bA, oA, none⟩) n' c') ∧ x9.cell? ⟨bA, oA + k * 2, none⟩ = some (.int .i64 a)) (by kernel_rfl) (by kernel_rfl) ?_
  obtain ⟨wc, hwc⟩ : ∃ x : World, x = X.drew := ⟨_, rfl⟩
  have hbn : Below X.heap.size X X.drew := (Below.refl _ _).drew
  have HTB := Lib.hid (HTB.out.below hbn)
  clear hbn
  have HBc : Hid (Below X.heap.size X wc) := by show Below _ _ _; rw [hwc]; exact (Below.refl _ _).drew
  have hS : wc.cell? ⟨gx, 1, none⟩ = some (.slice (some ⟨bA, oA, none⟩) n' c') ∧ wc.cell? ⟨bA, oA + k * 2, none⟩ = some (.int .i64 a) := by rw [hwc]; exact ⟨hx1, k1⟩
  have hg_0 : gx < wc.heap.size := by rw [hwc]; exact hgX
  have hg_1 : bA < wc.heap.size := by rw [hwc]; exact hbX
  rw [← hwc] at HTB
  rw [← hwc]
  clear hwc hx0 hx1 k1 k2
  refine HT.take (i := 0) (oi := _) (v := ?_) rfl (by kernel_rfl) (by kernel_rfl) (by decide) (fun _ _ _ h => h) (Or.inl ⟨by rfl, ?_⟩) hS ?_
  rotate_left
  · intro wz
    go_simp
    try with_reducible rfl
  simp only [List.getElem_toArray, List.getElem_cons_succ, List.getElem_cons_zero, Act.put, List.setIfInBounds_toArray, List.set_cons_zero, List.set_cons_succ]
  refine HT.load (i := 1) (oi := _) (v := ?_) rfl (by kernel_rfl) (by kernel_rfl) (by decide) (fun _ _ _ h => h) (by kernel_rfl) (Or.inl ⟨by rfl, ?_⟩) hS ?_
  rotate_left
  · intro wz hwz
    try dsimp only at hwz
    go_simp
    try with_reducible rfl
  simp only [List.getElem_toArray, List.getElem_cons_succ, List.getElem_cons_zero, Act.put, List.setIfInBounds_toArray, List.set_cons_zero, List.set_cons_succ]
  refine HT.take (i := 2) (oi := _) (v := ?_) rfl (by kernel_rfl) (by kernel_rfl) (by decide) (fun _ _ _ h => h) (Or.inl ⟨by rfl, ?_⟩) hS ?_
  rotate_left
  · intro wz
    go_simp
    try with_reducible rfl
  simp only [List.getElem_toArray, List.getElem_cons_succ, List.getElem_cons_zero, Act.put, List.setIfInBounds_toArray, List.set_cons_zero, List.set_cons_succ]
  refine HT.take (i := 3) (oi := _) (v := ?_) rfl (by kernel_rfl) (by kernel_rfl) (by decide) (fun _ _ _ h => h) (Or.inl ⟨by rfl, ?_⟩) hS ?_
  rotate_left
  · intro wz
    go_simp
    try with_reducible rfl
  simp only [List.getElem_toArray, List.getElem_cons_succ, List.getElem_cons_zero, Act.put, List.setIfInBounds_toArray, List.set_cons_zero, List.set_cons_succ]
  refine HT.take (i := 4) (oi := _) (v := ?_) rfl (by kernel_rfl) (by kernel_rfl) (by decide) (fun _ _ _ h => h) (Or.inl ⟨by rfl, ?_⟩) hS ?_
  rotate_left
  · intro wz
    go_simp
    try with_reducible rfl
  simp only [List.getElem_toArray, List.getElem_cons_succ, List.getElem_cons_zero, Act.put, List.setIfInBounds_toArray, List.set_cons_zero, List.set_cons_succ]
  refine HT.load (i := 5) (oi := _) (v := ?_) rfl (by kernel_rfl) (by kernel_rfl) (by decide) (fun _ _ _ h => h) (by kernel_rfl) (Or.inl ⟨by rfl, ?_⟩) hS ?_
  rotate_left
  · intro wz hwz
    try dsimp only at hwz
    go_simp
    try with_reducible rfl
  simp only [List.getElem_toArray, List.getElem_cons_succ, List.getElem_cons_zero, Act.put, List.setIfInBounds_toArray, List.set_cons_zero, List.set_cons_succ]
  refine HT.take (i := 6) (oi := _) (v := ?_) rfl (by kernel_rfl) (by kernel_rfl) (by decide) (fun _ _ _ h => h) (Or.inl ⟨by rfl, ?_⟩) hS ?_
  rotate_left
  · intro wz
    go_simp
    try with_reducible rfl
  simp only [List.getElem_toArray, List.getElem_cons_succ, List.getElem_cons_zero, Act.put, List.setIfInBounds_toArray, List.set_cons_zero, List.set_cons_succ]
  refine HT.take (i := 7) (oi := _) (v := ?_) rfl (by kernel_rfl) (by kernel_rfl) (by decide) (fun _ _ _ h => h) (Or.inl ⟨by rfl, ?_⟩) hS ?_
  rotate_left
  · intro wz
    go_simp
    try with_reducible rfl
  simp only [List.getElem_toArray, List.getElem_cons_succ, List.getElem_cons_zero, Act.put, List.setIfInBounds_toArray, List.set_cons_zero, List.set_cons_succ]
  refine HT.take (i := 8) (oi := _) (v := ?_) rfl (by kernel_rfl) (by kernel_rfl) (by decide) (fun _ _ _ h => h) (Or.inl ⟨by rfl, ?_⟩) hS ?_
  rotate_left
  · intro wz
    go_simp
    try with_reducible rfl
  simp only [List.getElem_toArray, List.getElem_cons_succ, List.getElem_cons_zero, Act.put, List.setIfInBounds_toArray, List.set_cons_zero, List.set_cons_succ]
  refine HT.take (i := 9) (oi := _) (v := ?_) rfl (by kernel_rfl) (by kernel_rfl) (by decide) (fun _ _ _ h => h) (Or.inl ⟨by rfl, ?_⟩) hS ?_
  rotate_left
  · intro wz
    go_simp
    try with_reducible rfl
  simp only [List.getElem_toArray, List.getElem_cons_succ, List.getElem_cons_zero, Act.put, List.setIfInBounds_toArray, List.set_cons_zero, List.set_cons_succ]
  refine HT.take (i := 10) (oi := _) (v := ?_) rfl (by kernel_rfl) (by kernel_rfl) (by decide) (fun _ _ _ h => h) (Or.inl ⟨by rfl, ?_⟩) hS ?_
  rotate_left
  · intro wz
    go_simp
    try with_reducible rfl
  simp only [List.getElem_toArray, List.getElem_cons_succ, List.getElem_cons_zero, Act.put, List.setIfInBounds_toArray, List.set_cons_zero, List.set_cons_succ]
  refine HT.take (i := 13) (oi := _) (v := ?_) rfl (by kernel_rfl) (by kernel_rfl) (by decide) (fun _ _ _ h => h) (Or.inl ⟨by rfl, ?_⟩) hS ?_
  rotate_left
  · intro wz
    go_simp
    try with_reducible rfl
  simp only [List.getElem_toArray, List.getElem_cons_succ, List.getElem_cons_zero, Act.put, List.setIfInBounds_toArray, List.set_cons_zero, List.set_cons_succ]
  refine HT.take (i := 14) (oi := _) (v := ?_) rfl (by kernel_rfl) (by kernel_rfl) (by decide) (fun _ _ _ h => h) (Or.inl ⟨by rfl, ?_⟩) hS ?_
  rotate_left
  · intro wz
    go_simp
    try with_reducible rfl
  simp only [List.getElem_toArray, List.getElem_cons_succ, List.getElem_cons_zero, Act.put, List.setIfInBounds_toArray, List.set_cons_zero, List.set_cons_succ]
  refine HT.take (i := 15) (oi := _) (v := ?_) rfl (by kernel_rfl) (by kernel_rfl) (by decide) (fun _ _ _ h => h) (Or.inl ⟨by rfl, ?_⟩) hS ?_
  rotate_left
  · intro wz
    go_simp
    try with_reducible rfl
  simp only [List.getElem_toArray, List.getElem_cons_succ, List.getElem_cons_zero, Act.put, List.setIfInBounds_toArray, List.set_cons_zero, List.set_cons_succ]
  refine HT.take (i := 16) (oi := _) (v := ?_) rfl (by kernel_rfl) (by kernel_rfl) (by decide) (fun _ _ _ h => h) (Or.inl ⟨by rfl, ?_⟩) hS ?_
  rotate_left
  · intro wz
    go_simp
    try with_reducible rfl
  simp only [List.getElem_toArray, List.getElem_cons_succ, List.getElem_cons_zero, Act.put, List.setIfInBounds_toArray, List.set_cons_zero, List.set_cons_succ]
  refine HT.take (i := 17) (oi := _) (v := ?_) rfl (by kernel_rfl) (by kernel_rfl) (by decide) (fun _ _ _ h => h) (Or.inl ⟨by rfl, ?_⟩) hS ?_
  rotate_left
  · intro wz
    go_simp
    try with_reducible rfl
  simp only [List.getElem_toArray, List.getElem_cons_succ, List.getElem_cons_zero, Act.put, List.setIfInBounds_toArray, List.set_cons_zero, List.set_cons_succ]
  refine HT.take (i := 21) (oi := _) (v := ?_) rfl (by kernel_rfl) (by kernel_rfl) (by decide) (fun _ _ _ h => h) (Or.inl ⟨by rfl, ?_⟩) hS ?_
  rotate_left
  · intro wz
    go_simp
    try with_reducible rfl
  simp only [List.getElem_toArray, List.getElem_cons_succ, List.getElem_cons_zero, Act.put, List.setIfInBounds_toArray, List.set_cons_zero, List.set_cons_succ]
  refine HT.take (i := 22) (oi := _) (v := ?_) rfl (by kernel_rfl) (by kernel_rfl) (by decide) (fun _ _ _ h => h) (Or.inl ⟨by rfl, ?_⟩) hS ?_
  rotate_left
  · intro wz
    go_simp
    try with_reducible rfl
  simp only [List.getElem_toArray, List.getElem_cons_succ, List.getElem_cons_zero, Act.put, List.setIfInBounds_toArray, List.set_cons_zero, List.set_cons_succ]
  clear kd1 kd2 kd3 kd4 kd5 kd6 kda kd7 kd8 kd9 kdb
  refine HT.one (i := 11) (o := _) rfl (by kernel_rfl) (by decide) (by rfl) ?_
  intro K hK
  go_simp
  refine (ITOAZ_any (a + d + 1) (by omega) (by omega) _ HTB).mono ?_
  rintro e9 wn ⟨z1, rfl, hz1, HZ1, hbn⟩
  replace HTB := Lib.hid (HTB.out.below hbn)
  have HBn := Lib.hid (HBc.out.trans (hbn.mono HBc.out.size))
  have hSn : wn.cell? ⟨gx, 1, none⟩ = some (.slice (some ⟨bA, oA, none⟩) n' c') ∧ wn.cell? ⟨bA, oA + k * 2, none⟩ = some (.int .i64 a) := ⟨(hbn.cell (p := ⟨gx, 1, none⟩) hg_0).trans hS.1, (hbn.cell (p := ⟨bA, oA + k * 2, none⟩) hg_1).trans hS.2⟩
  have hgn_0 := Nat.lt_of_lt_of_le hg_0 hbn.size
  have hgn_1 := Nat.lt_of_lt_of_le hg_1 hbn.size
  refine hK.out _ _ hSn ?_
  clear hK K hS HBc hg_0 hg_1
  try simp only [List.getElem_toArray, List.getElem_cons_succ, List.getElem_cons_zero, Act.put, List.setIfInBounds_toArray, List.set_cons_zero, List.set_cons_succ]
  have hS := hSn
  have HBc := HBn
  have hg_0 := hgn_0
  have hg_1 := hgn_1
  clear hSn HBn hbn hgn_0 hgn_1
  obtain ⟨wc, rfl⟩ : ∃ x : World, x = wn := ⟨_, rfl⟩
  refine HT.take (i := 12) (oi := _) (v := .string (z1 ++ ⟨#[46]⟩)) rfl (by kernel_rfl) (by kernel_rfl) (by decide) (fun _ _ _ h => h) (Or.inl ⟨by rfl, ?_⟩) hS ?_
  · intro wz
    go_simp
    first | rfl | omega | (rw [if_neg (by omega)])
  simp only [List.getElem_toArray, List.getElem_cons_succ, List.getElem_cons_zero, Act.put, List.setIfInBounds_toArray, List.set_cons_zero, List.set_cons_succ]
  refine HT.one (i := 18) (o := _) rfl (by kernel_rfl) (by decide) (by rfl) ?_
  intro K hK
  go_simp
  refine (ITOAZ_any (e + 1) (by omega) (by omega) _ HTB).mono ?_
  rintro e9 wn ⟨z2, rfl, hz2, HZ2, hbn⟩
  replace HTB := Lib.hid (HTB.out.below hbn)
  have HBn := Lib.hid (HBc.out.trans (hbn.mono HBc.out.size))
  have hSn : wn.cell? ⟨gx, 1, none⟩ = some (.slice (some ⟨bA, oA, none⟩) n' c') ∧ wn.cell? ⟨bA, oA + k * 2, none⟩ = some (.int .i64 a) := ⟨(hbn.cell (p := ⟨gx, 1, none⟩) hg_0).trans hS.1, (hbn.cell (p := ⟨bA, oA + k * 2, none⟩) hg_1).trans hS.2⟩
  have hgn_0 := Nat.lt_of_lt_of_le hg_0 hbn.size
  have hgn_1 := Nat.lt_of_lt_of_le hg_1 hbn.size
  refine hK.out _ _ hSn ?_
  clear hK K hS HBc hg_0 hg_1
  try simp only [List.getElem_toArray, List.getElem_cons_succ, List.getElem_cons_zero, Act.put, List.setIfInBounds_toArray, List.set_cons_zero, List.set_cons_succ]
  have hS := hSn
  have HBc := HBn
  have hg_0 := hgn_0
  have hg_1 := hgn_1
  clear hSn HBn hbn hgn_0 hgn_1
  obtain ⟨wc, rfl⟩ : ∃ x : World, x = wn := ⟨_, rfl⟩
  refine HT.take (i := 19) (oi := _) (v := .string (z1 ++ ⟨#[46]⟩ ++ z2)) rfl (by kernel_rfl) (by kernel_rfl) (by decide) (fun _ _ _ h => h) (Or.inl ⟨by rfl, ?_⟩) hS ?_
  · intro wz
    go_simp
    first | rfl | omega | (rw [if_neg (by omega)])
  simp only [List.getElem_toArray, List.getElem_cons_succ, List.getElem_cons_zero, Act.put, List.setIfInBounds_toArray, List.set_cons_zero, List.set_cons_succ]
  refine HT.take (i := 20) (oi := _) (v := .string (z1 ++ ⟨#[46]⟩ ++ z2 ++ ⟨#[46]⟩)) rfl (by kernel_rfl) (by kernel_rfl) (by decide) (fun _ _ _ h => h) (Or.inl ⟨by rfl, ?_⟩) hS ?_
  · intro wz
    go_simp
    first | rfl | omega | (rw [if_neg (by omega)])
  simp only [List.getElem_toArray, List.getElem_cons_succ, List.getElem_cons_zero, Act.put, List.setIfInBounds_toArray, List.set_cons_zero, List.set_cons_succ]
  refine HT.one (i := 23) (o := _) rfl (by kernel_rfl) (by decide) (by rfl) ?_
  intro K hK
  go_simp
  refine (ITOAZ_any f (by omega) (by omega) _ HTB).mono ?_
  rintro e9 wn ⟨z3, rfl, hz3, HZ3, hbn⟩
  replace HTB := Lib.hid (HTB.out.below hbn)
  have HBn := Lib.hid (HBc.out.trans (hbn.mono HBc.out.size))
  have hSn : wn.cell? ⟨gx, 1, none⟩ = some (.slice (some ⟨bA, oA, none⟩) n' c') ∧ wn.cell? ⟨bA, oA + k * 2, none⟩ = some (.int .i64 a) := ⟨(hbn.cell (p := ⟨gx, 1, none⟩) hg_0).trans hS.1, (hbn.cell (p := ⟨bA, oA + k * 2, none⟩) hg_1).trans hS.2⟩
  have hgn_0 := Nat.lt_of_lt_of_le hg_0 hbn.size
  have hgn_1 := Nat.lt_of_lt_of_le hg_1 hbn.size
  refine hK.out _ _ hSn ?_
  clear hK K hS HBc hg_0 hg_1
  try simp only [List.getElem_toArray, List.getElem_cons_succ, List.getElem_cons_zero, Act.put, List.setIfInBounds_toArray, List.set_cons_zero, List.set_cons_succ]
  have hS := hSn
  have HBc := HBn
  have hg_0 := hgn_0
  have hg_1 := hgn_1
  clear hSn HBn hbn hgn_0 hgn_1
  obtain ⟨wc, rfl⟩ : ∃ x : World, x = wn := ⟨_, rfl⟩
  refine HT.take (i := 24) (oi := _) (v := .string (z1 ++ ⟨#[46]⟩ ++ z2 ++ ⟨#[46]⟩ ++ z3)) rfl (by kernel_rfl) (by kernel_rfl) (by decide) (fun _ _ _ h => h) (Or.inl ⟨by rfl, ?_⟩) hS ?_
  · intro wz
    go_simp
    first | rfl | omega | (rw [if_neg (by omega)])
  simp only [List.getElem_toArray, List.getElem_cons_succ, List.getElem_cons_zero, Act.put, List.setIfInBounds_toArray, List.set_cons_zero, List.set_cons_succ]
  refine HT.done (by kernel_rfl) ?_
  clear hS
  simp only [List.drop_succ_cons, List.drop_zero]
  go_wp2_with fail
  refine bodyPost_ret (v := .tuple #[.string (z1 ++ ⟨#[46]⟩ ++ z2 ++ ⟨#[46]⟩ ++ z3), .int .i64 0]) (by simp [results, Tryd.results7, go_sem]) rfl ?_
  rw [HV.out]
  refine ⟨_, rfl, ?_, HBX.out.trans (HBc.out.mono HBX.out.size)⟩
  dsimp only
  rw [HBT.out]
  simp only [ByteArray.data_append, Array.toList_append, HZ1.out, HZ2.out, HZ3.out]
  simp [txt3]
end Go.Proofs.YthgjgiccoobcgaaDoor
