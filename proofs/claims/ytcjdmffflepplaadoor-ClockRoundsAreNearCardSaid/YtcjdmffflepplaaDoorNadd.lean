/- num.Nat: Add, sub. -/
import Derived.Test.YtcjdmffflepplaaDoorNcmp
set_option linter.unusedSimpArgs false
set_option linter.unusedVariables false
namespace Go.Proofs.YtcjdmffflepplaaDoor
open Go.RowKit Go.Dw

theorem mkNat (n : Nat) (hn : n ≤ 1099511627776) (W : World) : (Instr.makeSlice 41 (.int .i64 (n : Int)) (.int .i64 (n : Int))).run Tryd.prog W = .ok (.slice (some ⟨W.heap.size, 0, none⟩) n n) (W.alloc (.cells (cellsN .u32 (List.replicate n 0)) 73)) := by
  obtain ⟨i0, hi, hz0, hz1, hz2⟩ := info_parts u32_info
  exact run_makeN 41 73 i0 .u32 Tryd.underlying41 hi hz0 hz1 n (by rw [hz2]; omega) (by omega) W
theorem mkNat1 (n : Nat) (hn : n ≤ 1000000000000) (W : World) : (Instr.makeSlice 41 (.int .i64 ((n : Int) + 1)) (.int .i64 ((n : Int) + 1))).run Tryd.prog W = .ok (.slice (some ⟨W.heap.size, 0, none⟩) (n + 1) (n + 1)) (W.alloc (.cells (cellsN .u32 (List.replicate (n + 1) 0)) 73)) := by
  have := mkNat (n + 1) (by omega) W
  rwa [show ((n + 1 : Nat) : Int) = (n : Int) + 1 by omega] at this
theorem getD_over {l : List Nat} {k : Nat} (h : l.length ≤ k) : l.getD k 0 = 0 := by simp [List.getD, List.getElem?_eq_none h]
set_option maxRecDepth 100000 in
set_option maxHeartbeats 2000000 in
theorem NADD_any (A A' : Option Addr) (n c x n' c' y : Nat) (hn : n ≤ 1000000000000) (hn' : n' ≤ 1000000000000) (w : World) (B : Nat) (hB : B ≤ w.heap.size) (hh : Hid (NumAt .u32 73 4294967296 w B A n c x)) (hh' : Hid (NumAt .u32 73 4294967296 w B A' n' c' y)) :
    Calls Tryd.prog 68 #[.slice A n c, .slice A' n' c'] w (OutN w (x + y) (max n n' + 1)) := by
  obtain ⟨hc1, hc2, xs, hx, hv, hr⟩ := hh.out
  obtain ⟨hc1', hc2', ys, hx', hv', hr'⟩ := hh'.out
  have hl := hr.1
  have hl' := hr'.1
  unfold maxLen at hc2 hc2'
  have HX := Lib.hid hx
  have HV := Lib.hid hv
  have HR := Lib.hid hr
  have HX' := Lib.hid hx'
  have HV' := Lib.hid hv'
  have HR' := Lib.hid hr'
  have HL := Lib.hid hl
  have HL' := Lib.hid hl'
  clear hx hv hr hx' hv' hr' hl hl' hh hh'
  by_cases h1 : n < n'
  · skip
    have hmk := mkNat1 n' (by omega)
    go_enter Tryd.func68, Tryd.ntmps68
    go_wp2_with fail
    obtain ⟨g, hg⟩ : ∃ g, g = w.heap.size := ⟨_, rfl⟩
    rw [← hg]
    have HG := Lib.hid hg
    obtain ⟨W, hW⟩ : ∃ W, W = w.alloc (.cells (cellsN .u32 (List.replicate (n' + 1) 0)) 73) := ⟨_, rfl⟩
    have HB0 : Hid (BlkN .u32 73 W g (List.replicate (n' + 1) 0)) := by rw [hW, hg]; exact BlkN.mk _ _ _ _
    have HW0 : Hid (Below g w W) := by show Below _ _ _; rw [hW, hg]; exact (Below.refl _ _).alloc (Nat.le_refl _) _
    rw [← hW]
    clear hW hg hmk
    go_loopw [6, 21] (fun cv i wr => ∃ (k cN : Nat) (L : List Nat), k ≤ n' ∧ i = .int .i64 k ∧ cv = .int .u64 cN ∧ cN ≤ 1 ∧ Hid (L.length = n' + 1) ∧ Hid (DigN 4294967296 L) ∧ Hid (valB 4294967296 (L.take k) + 4294967296 ^ k * cN = valB 4294967296 (ys.take k) + valB 4294967296 (xs.take k)) ∧ Hid (BlkN .u32 73 wr g L) ∧ Hid (Below g w wr)) (fun _ i _ => n' - (intOf i).toNat)
    case atStart => exact ⟨0, 0, _, Nat.zero_le _, rfl, rfl, Nat.zero_le _, by show _ = _; simp, DigN.zeros (by omega) _, by show _ = _; simp [valB], HB0, HW0⟩
    case round =>
      obtain ⟨k, cN, L, hk, rfl, rfl, hcN, hL, hD, hI, hb, hw⟩ := hrel
      have HRX := Lib.hid (HR'.out.below hw.out (by rw [HG.out]; omega))
      have HRY := Lib.hid (HR.out.below hw.out (by rw [HG.out]; omega))
      by_cases hlt : k < n'
      · obtain ⟨q, o, rfl, hq⟩ := HRX.out.addr (by omega)
        have hx := HRX.out.cell hlt
        have hold := hb.out.cell (i := k) (by rw [hL.out]; omega)
        have hfr := hb.out.frozen k
        have hdx := HX'.out.1.get (by omega) k
        have hdy := HX.out.1.get (by omega) k
        obtain ⟨d, hd1⟩ : ∃ d, ys.getD k 0 = d := ⟨_, rfl⟩
        obtain ⟨d', hd2⟩ : ∃ d, xs.getD k 0 = d := ⟨_, rfl⟩
        have HD1 := Lib.hid hd1
        have HD2 := Lib.hid hd2
        rw [hd1] at hx hdx
        rw [hd2] at hdy
        obtain ⟨t, ht⟩ : ∃ t, cN + d = t := ⟨_, rfl⟩
        obtain ⟨s, hs⟩ : ∃ s, t + d' = s := ⟨_, rfl⟩
        have HT := Lib.hid ht
        have HS := Lib.hid hs
        have hti : (cN : Int) + (d : Int) = (t : Int) := by omega
        have hsi : (t : Int) + (d' : Int) = (s : Int) := by omega
        have ht1 : t < 8589934592 := by omega
        have hs1 : s < 8589934592 := by omega
        have hset := hb.out.set k (s % 4294967296)
        rw [show ((s % 4294967296 : Nat) : Int) = (s : Int) % 4294967296 by omega] at hset
        have HSET := Lib.hid hset
        have HNEW := Lib.hid (add_step (b := 4294967296) (X := ys) (Y := xs) (s := s) (by rw [hL.out]; omega) (by rw [HD1.out, HD2.out]; omega) hI.out)
        have hk0 : (0 : Int) ≤ (k : Int) ∧ (k : Int) < (n' : Int) := by omega
        obtain ⟨hk0, hk1⟩ := hk0
    
        have hs2 : s / 4294967296 ≤ 1 := by omega
        clear hd1 hd2 hset ht hs
        by_cases hy : k < n
        · obtain ⟨q', o', rfl, hq'⟩ := HRY.out.addr (by omega)
          have hy1 := HRY.out.cell hy
          rw [HD2.out] at hy1
          go_wp2_with fail
          go_roundw
          case rel =>
            refine ⟨k + 1, s / 4294967296, _, by omega, by go_num, rfl, hs2, ?_, ?_, HNEW, HSET, ?_⟩
            · show _ = _; rw [List.length_set]; exact hL.out
            · exact hD.out.set (Nat.mod_lt _ (by omega)) k
            · exact hw.out.setCell (Nat.le_refl _) _
          case measure => simp [intOf] <;> omega
        · obtain rfl : d' = 0 := by rw [← HD2.out]; exact getD_over (by rw [HL.out]; omega)
          obtain rfl : t = s := by have := HS.out; omega
          clear hsi
          go_wp2_with fail
          go_roundw
          case rel =>
            refine ⟨k + 1, t / 4294967296, _, by omega, by go_num, rfl, hs2, ?_, ?_, HNEW, HSET, ?_⟩
            · show _ = _; rw [List.length_set]; exact hL.out
            · exact hD.out.set (Nat.mod_lt _ (by omega)) k
            · exact hw.out.setCell (Nat.le_refl _) _
          case measure => simp [intOf] <;> omega
      · obtain rfl : k = n' := by omega
        have hold := hb.out.cell (i := k) (by rw [hL.out]; omega)
        have hfr := hb.out.frozen k
        have hset := hb.out.set k cN
        have HSET := Lib.hid hset
        clear hset
        have HNEW : Hid (valB 4294967296 (L.set k cN) = x + y) := by
          show _ = _
          have h1 := take_set_succ L cN (k := k) (by rw [hL.out]; omega)
          rw [List.take_of_length_le (by rw [List.length_set, hL.out]; exact Nat.le_refl _)] at h1
          rw [h1, valB_snoc, List.length_take, Nat.min_eq_left (by rw [hL.out]; omega)]
          have h2 := hI.out
          rw [List.take_of_length_le (l := ys) (by rw [HL'.out]; omega), List.take_of_length_le (l := xs) (by rw [HL.out]; omega)] at h2
          rw [h2, HV.out, HV'.out]
          try omega
        have hc9 : (cN : Int) < 4294967296 := by omega
        go_wp2_with fail
        refine (NTRIM_blk _ _ _ _ _ HSET (by show _ = _; rw [List.length_set]; exact hL.out) (by unfold maxLen; omega) (hD.out.set (by omega) k) HNEW).mono ?_
        rintro e w1 ⟨⟨m, rfl, h1, h2⟩, rfl⟩
        have H1 := Lib.hid h1
        clear h1
        go_wp2_with fail
        go_ret
        exact ⟨_, _, _, rfl, H1.out, by omega, (hw.out.setCell (Nat.le_refl _) _).mono (by rw [HG.out]; exact Nat.le_refl _)⟩
  · skip
    have hmk := mkNat1 n (by omega)
    go_enter Tryd.func68, Tryd.ntmps68
    go_wp2_with fail
    obtain ⟨g, hg⟩ : ∃ g, g = w.heap.size := ⟨_, rfl⟩
    rw [← hg]
    have HG := Lib.hid hg
    obtain ⟨W, hW⟩ : ∃ W, W = w.alloc (.cells (cellsN .u32 (List.replicate (n + 1) 0)) 73) := ⟨_, rfl⟩
    have HB0 : Hid (BlkN .u32 73 W g (List.replicate (n + 1) 0)) := by rw [hW, hg]; exact BlkN.mk _ _ _ _
    have HW0 : Hid (Below g w W) := by show Below _ _ _; rw [hW, hg]; exact (Below.refl _ _).alloc (Nat.le_refl _) _
    rw [← hW]
    clear hW hg hmk
    go_loopw [6, 21] (fun cv i wr => ∃ (k cN : Nat) (L : List Nat), k ≤ n ∧ i = .int .i64 k ∧ cv = .int .u64 cN ∧ cN ≤ 1 ∧ Hid (L.length = n + 1) ∧ Hid (DigN 4294967296 L) ∧ Hid (valB 4294967296 (L.take k) + 4294967296 ^ k * cN = valB 4294967296 (xs.take k) + valB 4294967296 (ys.take k)) ∧ Hid (BlkN .u32 73 wr g L) ∧ Hid (Below g w wr)) (fun _ i _ => n - (intOf i).toNat)
    case atStart => exact ⟨0, 0, _, Nat.zero_le _, rfl, rfl, Nat.zero_le _, by show _ = _; simp, DigN.zeros (by omega) _, by show _ = _; simp [valB], HB0, HW0⟩
    case round =>
      obtain ⟨k, cN, L, hk, rfl, rfl, hcN, hL, hD, hI, hb, hw⟩ := hrel
      have HRX := Lib.hid (HR.out.below hw.out (by rw [HG.out]; omega))
      have HRY := Lib.hid (HR'.out.below hw.out (by rw [HG.out]; omega))
      by_cases hlt : k < n
      · obtain ⟨q, o, rfl, hq⟩ := HRX.out.addr (by omega)
        have hx := HRX.out.cell hlt
        have hold := hb.out.cell (i := k) (by rw [hL.out]; omega)
        have hfr := hb.out.frozen k
        have hdx := HX.out.1.get (by omega) k
        have hdy := HX'.out.1.get (by omega) k
        obtain ⟨d, hd1⟩ : ∃ d, xs.getD k 0 = d := ⟨_, rfl⟩
        obtain ⟨d', hd2⟩ : ∃ d, ys.getD k 0 = d := ⟨_, rfl⟩
        have HD1 := Lib.hid hd1
        have HD2 := Lib.hid hd2
        rw [hd1] at hx hdx
        rw [hd2] at hdy
        obtain ⟨t, ht⟩ : ∃ t, cN + d = t := ⟨_, rfl⟩
        obtain ⟨s, hs⟩ : ∃ s, t + d' = s := ⟨_, rfl⟩
        have HT := Lib.hid ht
        have HS := Lib.hid hs
        have hti : (cN : Int) + (d : Int) = (t : Int) := by omega
        have hsi : (t : Int) + (d' : Int) = (s : Int) := by omega
        have ht1 : t < 8589934592 := by omega
        have hs1 : s < 8589934592 := by omega
        have hset := hb.out.set k (s % 4294967296)
        rw [show ((s % 4294967296 : Nat) : Int) = (s : Int) % 4294967296 by omega] at hset
        have HSET := Lib.hid hset
        have HNEW := Lib.hid (add_step (b := 4294967296) (X := xs) (Y := ys) (s := s) (by rw [hL.out]; omega) (by rw [HD1.out, HD2.out]; omega) hI.out)
        have hk0 : (0 : Int) ≤ (k : Int) ∧ (k : Int) < (n : Int) := by omega
        obtain ⟨hk0, hk1⟩ := hk0
    
        have hs2 : s / 4294967296 ≤ 1 := by omega
        clear hd1 hd2 hset ht hs
        by_cases hy : k < n'
        · obtain ⟨q', o', rfl, hq'⟩ := HRY.out.addr (by omega)
          have hy1 := HRY.out.cell hy
          rw [HD2.out] at hy1
          go_wp2_with fail
          go_roundw
          case rel =>
            refine ⟨k + 1, s / 4294967296, _, by omega, by go_num, rfl, hs2, ?_, ?_, HNEW, HSET, ?_⟩
            · show _ = _; rw [List.length_set]; exact hL.out
            · exact hD.out.set (Nat.mod_lt _ (by omega)) k
            · exact hw.out.setCell (Nat.le_refl _) _
          case measure => simp [intOf] <;> omega
        · obtain rfl : d' = 0 := by rw [← HD2.out]; exact getD_over (by rw [HL'.out]; omega)
          obtain rfl : t = s := by have := HS.out; omega
          clear hsi
          go_wp2_with fail
          go_roundw
          case rel =>
            refine ⟨k + 1, t / 4294967296, _, by omega, by go_num, rfl, hs2, ?_, ?_, HNEW, HSET, ?_⟩
            · show _ = _; rw [List.length_set]; exact hL.out
            · exact hD.out.set (Nat.mod_lt _ (by omega)) k
            · exact hw.out.setCell (Nat.le_refl _) _
          case measure => simp [intOf] <;> omega
      · obtain rfl : k = n := by omega
        have hold := hb.out.cell (i := k) (by rw [hL.out]; omega)
        have hfr := hb.out.frozen k
        have hset := hb.out.set k cN
        have HSET := Lib.hid hset
        clear hset
        have HNEW : Hid (valB 4294967296 (L.set k cN) = x + y) := by
          show _ = _
          have h1 := take_set_succ L cN (k := k) (by rw [hL.out]; omega)
          rw [List.take_of_length_le (by rw [List.length_set, hL.out]; exact Nat.le_refl _)] at h1
          rw [h1, valB_snoc, List.length_take, Nat.min_eq_left (by rw [hL.out]; omega)]
          have h2 := hI.out
          rw [List.take_of_length_le (l := xs) (by rw [HL.out]; omega), List.take_of_length_le (l := ys) (by rw [HL'.out]; omega)] at h2
          rw [h2, HV.out, HV'.out]
          try omega
        have hc9 : (cN : Int) < 4294967296 := by omega
        go_wp2_with fail
        refine (NTRIM_blk _ _ _ _ _ HSET (by show _ = _; rw [List.length_set]; exact hL.out) (by unfold maxLen; omega) (hD.out.set (by omega) k) HNEW).mono ?_
        rintro e w1 ⟨⟨m, rfl, h1, h2⟩, rfl⟩
        have H1 := Lib.hid h1
        clear h1
        go_wp2_with fail
        go_ret
        exact ⟨_, _, _, rfl, H1.out, by omega, (hw.out.setCell (Nat.le_refl _) _).mono (by rw [HG.out]; exact Nat.le_refl _)⟩
set_option maxRecDepth 100000 in
set_option maxHeartbeats 2000000 in
theorem NSUB_any (A A' : Option Addr) (n c x n' c' y : Nat) (hn : n ≤ 1000000000000) (hle : y ≤ x) (w : World) (B : Nat) (hB : B ≤ w.heap.size) (hh : Hid (NumAt .u32 73 4294967296 w B A n c x)) (hh' : Hid (NumAt .u32 73 4294967296 w B A' n' c' y)) :
    Calls Tryd.prog 77 #[.slice A n c, .slice A' n' c'] w (OutN w (x - y) n) := by
  have hnn := hh'.out.len_mono (by omega) hh.out hle
  obtain ⟨hc1, hc2, xs, hx, hv, hr⟩ := hh.out
  obtain ⟨hc1', hc2', ys, hx', hv', hr'⟩ := hh'.out
  have hl := hr.1
  have hl' := hr'.1
  unfold maxLen at hc2 hc2'
  have HX := Lib.hid hx
  have HV := Lib.hid hv
  have HR := Lib.hid hr
  have HX' := Lib.hid hx'
  have HV' := Lib.hid hv'
  have HR' := Lib.hid hr'
  have HL := Lib.hid hl
  have HL' := Lib.hid hl'
  clear hx hv hr hx' hv' hr' hl hl' hh hh'
  have hmk := mkNat n (by omega)
  go_enter Tryd.func77, Tryd.ntmps77
  go_wp2_with fail
  obtain ⟨g, hg⟩ : ∃ g, g = w.heap.size := ⟨_, rfl⟩
  rw [← hg]
  have HG := Lib.hid hg
  obtain ⟨W, hW⟩ : ∃ W, W = w.alloc (.cells (cellsN .u32 (List.replicate n 0)) 73) := ⟨_, rfl⟩
  have HB0 : Hid (BlkN .u32 73 W g (List.replicate n 0)) := by rw [hW, hg]; exact BlkN.mk _ _ _ _
  have HW0 : Hid (Below g w W) := by show Below _ _ _; rw [hW, hg]; exact (Below.refl _ _).alloc (Nat.le_refl _) _
  rw [← hW]
  clear hW hg hmk
  go_loopw [6, 13] (fun cv i wr => ∃ (k bo : Nat) (L : List Nat), k ≤ n ∧ i = .int .i64 k ∧ cv = .int .i64 (-(bo : Int)) ∧ bo ≤ 1 ∧ Hid (L.length = n) ∧ Hid (DigN 4294967296 L) ∧ Hid (valB 4294967296 (L.take k) + valB 4294967296 (ys.take k) = valB 4294967296 (xs.take k) + 4294967296 ^ k * bo) ∧ Hid (BlkN .u32 73 wr g L) ∧ Hid (Below g w wr)) (fun _ i _ => n - (intOf i).toNat)
  case atStart => exact ⟨0, 0, _, Nat.zero_le _, rfl, rfl, Nat.zero_le _, by show _ = _; simp, DigN.zeros (by omega) _, by show _ = _; simp [valB], HB0, HW0⟩
  case round =>
    obtain ⟨k, bo, L, hk, rfl, rfl, hcN, hL, hD, hI, hb, hw⟩ := hrel
    have HRX := Lib.hid (HR.out.below hw.out (by rw [HG.out]; omega))
    have HRY := Lib.hid (HR'.out.below hw.out (by rw [HG.out]; omega))
    by_cases hlt : k < n
    · obtain ⟨q, o, rfl, hq⟩ := HRX.out.addr (by omega)
      have hx := HRX.out.cell hlt
      have hold := hb.out.cell (i := k) (by rw [hL.out]; omega)
      have hfr := hb.out.frozen k
      have hdx := HX.out.1.get (by omega) k
      have hdy := HX'.out.1.get (by omega) k
      obtain ⟨d, hd1⟩ : ∃ d, xs.getD k 0 = d := ⟨_, rfl⟩
      obtain ⟨d', hd2⟩ : ∃ d, ys.getD k 0 = d := ⟨_, rfl⟩
      have HD1 := Lib.hid hd1
      have HD2 := Lib.hid hd2
      rw [hd1] at hx hdx
      rw [hd2] at hdy
      obtain ⟨bi, hbi⟩ : ∃ bi : Int, -(bo : Int) = bi := ⟨_, rfl⟩
      rw [hbi]
      obtain ⟨t, ht⟩ : ∃ t, bi + (d : Int) = t := ⟨_, rfl⟩
      obtain ⟨z, hz⟩ : ∃ z, t - (d' : Int) = z := ⟨_, rfl⟩
      obtain ⟨s, bo', hs⟩ : ∃ s bo' : Nat, s < 4294967296 ∧ bo' ≤ 1 ∧ (s : Int) = z + 4294967296 * bo' := by
        by_cases h : 0 ≤ z
        · exact ⟨z.toNat, 0, by omega, by omega, by omega⟩
        · exact ⟨(z + 4294967296).toNat, 1, by omega, by omega, by omega⟩
      obtain ⟨hs2, hbo2, hs3⟩ := hs
      have HNEW := Lib.hid (sub_step (b := 4294967296) (X := xs) (Y := ys) (s := s) (c' := bo') (by rw [hL.out]; omega) (by rw [HD1.out, HD2.out]; omega) hI.out)
      have hbb : -1 ≤ bi ∧ bi ≤ 0 := by omega
      have htt : -1 ≤ t ∧ t < 4294967296 := by omega
      have hzz : -4294967296 ≤ z ∧ z < 4294967296 := by omega
      obtain ⟨hbb1, hbb2⟩ := hbb
      obtain ⟨htt1, htt2⟩ := htt
      obtain ⟨hzz1, hzz2⟩ := hzz
      have hset := hb.out.set k s
      rw [show (s : Int) = z % 4294967296 by omega] at hset
      have HZ := Lib.hid hs3
      have HSET := Lib.hid hset
      have hk0 : (0 : Int) ≤ (k : Int) ∧ (k : Int) < (n : Int) := by omega
      obtain ⟨hk0, hk1⟩ := hk0
      have HE := Lib.hid (And.intro hbi (And.intro ht hz))
      clear hd1 hd2 hset hbi hs3
      by_cases hy : k < n'
      · obtain ⟨q', o', rfl, hq'⟩ := HRY.out.addr (by omega)
        have hy1 := HRY.out.cell hy
        rw [HD2.out] at hy1
        go_wp2_with fail
        go_roundw
        case rel =>
          refine ⟨k + 1, bo', _, by omega, by go_num, val_int (by have := HZ.out; omega), hbo2, ?_, ?_, HNEW, HSET, ?_⟩
          · show _ = _; rw [List.length_set]; exact hL.out
          · exact hD.out.set hs2 k
          · exact hw.out.setCell (Nat.le_refl _) _
        case measure => simp [intOf] <;> omega
      · obtain rfl : d' = 0 := by rw [← HD2.out]; exact getD_over (by rw [HL'.out]; omega)
        obtain rfl : t = z := by have := HE.out.2.2; omega
        clear hz
        go_wp2_with fail
        go_roundw
        case rel =>
          refine ⟨k + 1, bo', _, by omega, by go_num, val_int (by have := HZ.out; omega), hbo2, ?_, ?_, HNEW, HSET, ?_⟩
          · show _ = _; rw [List.length_set]; exact hL.out
          · exact hD.out.set hs2 k
          · exact hw.out.setCell (Nat.le_refl _) _
        case measure => simp [intOf] <;> omega
    · obtain rfl : k = n := by omega
      have HVL : Hid (bo = 0 ∧ valB 4294967296 L = x - y) := by
        have h2 := hI.out
        rw [List.take_of_length_le (by rw [hL.out]; omega), List.take_of_length_le (l := xs) (by rw [HL.out]; omega), List.take_of_length_le (l := ys) (by rw [HL'.out]; omega), HV.out, HV'.out] at h2
        have h3 := valB_lt hD.out
        rw [hL.out] at h3
        rcases Nat.eq_zero_or_pos bo with h4 | h4
        · subst h4; exact ⟨rfl, by omega⟩
        · obtain rfl : bo = 1 := by omega
          exfalso; omega
      go_wp2_with fail
      refine (NTRIM_blk _ _ _ _ _ hb hL (by unfold maxLen; omega) hD (Lib.hid HVL.out.2)).mono ?_
      rintro e w1 ⟨⟨m, rfl, h1, h2⟩, rfl⟩
      have H1 := Lib.hid h1
      clear h1
      go_wp2_with fail
      go_ret
      exact ⟨_, _, _, rfl, H1.out, h2, hw.out.mono (by rw [HG.out]; exact Nat.le_refl _)⟩
end Go.Proofs.YtcjdmffflepplaaDoor
