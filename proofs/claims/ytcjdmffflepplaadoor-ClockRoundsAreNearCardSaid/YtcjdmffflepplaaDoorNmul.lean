/- num.Nat: Mul. -/
import Derived.Test.YtcjdmffflepplaaDoorNadd
import Derived.Test.YtcjdmffflepplaaDoorShelf
set_option linter.unusedSimpArgs false
set_option linter.unusedVariables false
namespace Go.Proofs.YtcjdmffflepplaaDoor
open Go.RowKit Go.Dw

theorem NSMALL_yes (A : Option Addr) (n c x : Nat) (hx : x < 18446744073709551616) (w : World) (B : Nat) (hh : Hid (NumAt .u32 73 4294967296 w B A n c x)) :
    Calls Tryd.prog 61 #[.slice A n c] w fun e w' => e = .returned (.tuple #[.int .u64 x, .bool true]) ∧ Below w.heap.size w w' :=
  (NSMALL_any A n c x w B hh).mono fun e w' ⟨h1, q, h2⟩ => ⟨by rw [h1]; unfold smallN; rw [if_pos hx], by rw [h2]; exact belowN (Below.refl _ _) q⟩
theorem NSMALL_no (A : Option Addr) (n c x : Nat) (hx : 18446744073709551616 ≤ x) (w : World) (B : Nat) (hh : Hid (NumAt .u32 73 4294967296 w B A n c x)) :
    Calls Tryd.prog 61 #[.slice A n c] w fun e w' => e = .returned (.tuple #[.int .u64 0, .bool false]) ∧ Below w.heap.size w w' :=
  (NSMALL_any A n c x w B hh).mono fun e w' ⟨h1, q, h2⟩ => ⟨by rw [h1]; unfold smallN; rw [if_neg (by omega)]; rfl, by rw [h2]; exact belowN (Below.refl _ _) q⟩
theorem NCMP_below (A A' : Option Addr) (n c x n' c' y : Nat) (w : World) (B : Nat) (hh : Hid (NumAt .u32 73 4294967296 w B A n c x)) (hh' : Hid (NumAt .u32 73 4294967296 w B A' n' c' y)) :
    Calls Tryd.prog 56 #[.slice A n c, .slice A' n' c'] w fun e w' => e = .returned (.int .i64 (cmpN x y)) ∧ Below w.heap.size w w' :=
  (NCMP_any A A' n c x n' c' y w B hh hh').mono fun e w' ⟨h1, q, h2⟩ => ⟨h1, by rw [h2]; exact belowN (Below.refl _ _) q⟩
theorem mkNat2 (n n' : Nat) (hn : n ≤ 400000000000) (hn' : n' ≤ 400000000000) (W : World) : (Instr.makeSlice 41 (.int .i64 ((n : Int) + (n' : Int))) (.int .i64 ((n : Int) + (n' : Int)))).run Tryd.prog W = .ok (.slice (some ⟨W.heap.size, 0, none⟩) (n + n') (n + n')) (W.alloc (.cells (cellsN .u32 (List.replicate (n + n') 0)) 73)) := by
  have := mkNat (n + n') (by omega) W
  rwa [show ((n + n' : Nat) : Int) = (n : Int) + (n' : Int) by omega] at this
theorem blk4 (w : World) (h l : Nat) : BlkN .u32 73 (w.alloc (.cells #[.int .u32 ((l : Int) % 4294967296), .int .u32 ((l : Int) / 4294967296), .int .u32 ((h : Int) % 4294967296), .int .u32 ((h : Int) / 4294967296)] 73)) w.heap.size [l % 4294967296, l / 4294967296, h % 4294967296, h / 4294967296] := by
  have h := BlkN.mk .u32 73 w [l % 4294967296, l / 4294967296, h % 4294967296, h / 4294967296]
  simpa [cellsN] using h
set_option maxRecDepth 100000 in
set_option maxHeartbeats 2000000 in
theorem NMUL_small (A A' : Option Addr) (n c x n' c' y : Nat) (hx : x < 18446744073709551616) (hy : y < 18446744073709551616) (w : World) (B : Nat) (hB : B ≤ w.heap.size) (hh : Hid (NumAt .u32 73 4294967296 w B A n c x)) (hh' : Hid (NumAt .u32 73 4294967296 w B A' n' c' y)) :
    Calls Tryd.prog 50 #[.slice A n c, .slice A' n' c'] w (OutN w (x * y) 4) := by
  go_enter Tryd.func50, Tryd.ntmps50
  go_wp2_with fail
  refine (NSMALL_yes A n c x hx _ B hh).mono ?_
  rintro e w1 ⟨rfl, hb1⟩
  have HB1 := Lib.hid hb1
  clear hb1
  go_wp2_with fail
  refine (NSMALL_yes A' n' c' y hy _ B (Lib.hid (hh'.out.below HB1.out hB))).mono ?_
  rintro e w2 ⟨rfl, hb2⟩
  have HB2 := Lib.hid (HB1.out.trans (hb2.mono HB1.out.size))
  clear hb2
  go_wp2_with fail
  refine (Tryd.bits_Mul64 x y hx hy _).mono ?_
  rintro e w1 ⟨rfl, rfl⟩
  have hp : x * y < 340282366920938463463374607431768211456 := by
    have := Nat.mul_le_mul (show x ≤ 18446744073709551615 by omega) (show y ≤ 18446744073709551615 by omega)
    omega
  obtain ⟨p, hp1⟩ : ∃ p, x * y = p := ⟨_, rfl⟩
  have HXY := Lib.hid hp1
  rw [hp1] at hp ⊢
  obtain ⟨h, hh1⟩ : ∃ h, p / 18446744073709551616 = h := ⟨_, rfl⟩
  obtain ⟨l, hl1⟩ : ∃ l, p % 18446744073709551616 = l := ⟨_, rfl⟩
  rw [hh1, hl1]
  have hh2 : h < 18446744073709551616 := by omega
  have hl2 : l < 18446744073709551616 := by omega
  have HP := Lib.hid (show p = l + 18446744073709551616 * h by omega)
  clear hp hp1 hh1 hl1
  have HX := Lib.hid hx
  have HY := Lib.hid hy
  clear hx hy
  go_wp2_with fail
  have hbl := blk4 w1 h l
  have hbb := Lib.hid (HB2.out.alloc HB2.out.size (.cells #[.int .u32 ((l : Int) % 4294967296), .int .u32 ((l : Int) / 4294967296), .int .u32 ((h : Int) % 4294967296), .int .u32 ((h : Int) / 4294967296)] 73))
  refine (NTRIM_blk _ 4 _ p _ (Lib.hid hbl) rfl (by decide) (DigN.cons (by omega) (DigN.cons (by omega) (DigN.cons (by omega) (DigN.cons (by omega) (DigN.nil _))))) (by show _ = _; rw [HP.out]; simp only [valB]; omega)).mono ?_
  rintro e w9 ⟨⟨m, rfl, h1, h2⟩, rfl⟩
  have H1 := Lib.hid h1
  clear h1 hbl
  go_wp2_with fail
  go_ret
  exact ⟨_, _, _, rfl, by rw [HXY.out]; exact H1.out, h2, hbb.out⟩
theorem getD_zeros (n p : Nat) : (List.replicate n 0).getD p 0 = 0 := by
  by_cases h : p < n
  · simp [List.getD, h]
  · exact getD_over (by simp; omega)
set_option maxRecDepth 100000 in
set_option maxHeartbeats 2000000 in
theorem NMUL_big (A A' : Option Addr) (n c x n' c' y : Nat) (hn : n ≤ 400000000000) (hn' : n' ≤ 400000000000) (hxy : 18446744073709551616 ≤ x ∨ 18446744073709551616 ≤ y) (w : World) (B : Nat) (hB : B ≤ w.heap.size) (hh : Hid (NumAt .u32 73 4294967296 w B A n c x)) (hh' : Hid (NumAt .u32 73 4294967296 w B A' n' c' y)) :
    Calls Tryd.prog 50 #[.slice A n c, .slice A' n' c'] w (OutN w (x * y) (n + n')) := by
  obtain ⟨hc1, hc2, xs, hx, hv, hr⟩ := hh.out
  obtain ⟨hc1', hc2', ys, hx', hv', hr'⟩ := hh'.out
  have hl := hr.1
  have hl' := hr'.1
  unfold maxLen at hc2 hc2'
  have HX := Lib.hid hx
  have HV := Lib.hid hv
  have HR := Lib.hid hr
  have HX' := Lib.hid hx'
  have HV' := Lib.hid hv'
  have HR' := Lib.hid hr'
  have HL := Lib.hid hl
  have HL' := Lib.hid hl'
  clear hx hv hr hx' hv' hr' hl hl'
  have hmk := mkNat2 n n' hn hn'
  by_cases hx9 : x < 18446744073709551616
  · have hy9 : 18446744073709551616 ≤ y := by omega
    clear hxy
    go_enter Tryd.func50, Tryd.ntmps50
    go_wp2_with fail
    refine (NSMALL_yes A n c x hx9 _ B hh).mono ?_
    rintro e w1 ⟨rfl, hb1⟩
    have HB1 := Lib.hid hb1
    clear hb1
    have HN9 := Lib.hid hx9
    go_wp2_with fail
    refine (NSMALL_no A' n' c' y hy9 _ B (Lib.hid (hh'.out.below HB1.out hB))).mono ?_
    rintro e w2 ⟨rfl, hb2⟩
    have HB2 := Lib.hid (HB1.out.trans (hb2.mono HB1.out.size))
    clear hb2 hh hh' hx9 hy9 HB1
    obtain ⟨w1, rfl⟩ : ∃ w1, w1 = w2 := ⟨_, rfl⟩
    have HB1 := HB2
    go_wp2_with fail
    obtain ⟨g, hg⟩ : ∃ g, g = w1.heap.size := ⟨_, rfl⟩
    rw [← hg]
    have HG := Lib.hid (show w.heap.size ≤ g by rw [hg]; exact HB1.out.size)
    obtain ⟨W, hW⟩ : ∃ W, W = w1.alloc (.cells (cellsN .u32 (List.replicate (n + n') 0)) 73) := ⟨_, rfl⟩
    have HB0 : Hid (BlkN .u32 73 W g (List.replicate (n + n') 0)) := by rw [hW, hg]; exact BlkN.mk _ _ _ _
    have HW0 : Hid (Below w.heap.size w W) := by show Below _ _ _; rw [hW]; exact HB1.out.alloc HB1.out.size _
    rw [← hW]
    clear hW hg hmk
    go_loopw [55] (fun i wr => ∃ (k : Nat) (L : List Nat), k ≤ n ∧ i = .int .i64 k ∧ Hid (L.length = n + n') ∧ Hid (DigN 4294967296 L) ∧ Hid (valB 4294967296 L = valB 4294967296 (xs.take k) * y) ∧ Hid (∀ p, k + n' ≤ p → L.getD p 0 = 0) ∧ Hid (BlkN .u32 73 wr g L) ∧ Hid (Below w.heap.size w wr)) (fun i _ => n - (intOf i).toNat)
    case atStart => exact ⟨0, _, Nat.zero_le _, rfl, by show _ = _; simp, DigN.zeros (by omega) _, by show _ = _; rw [valB_zeros]; simp [valB], fun p _ => getD_zeros _ p, HB0, HW0⟩
    case round =>
      obtain ⟨k, L, hk, rfl, hL, hD, hI, hZ, hb, hw⟩ := hrel
      by_cases hlt : k < n
      · obtain ⟨wo, rfl⟩ : ∃ wo : World, wo = wr := ⟨_, rfl⟩
        obtain ⟨q, o, rfl, hq⟩ := HR.out.addr (by omega)
        have hx := (HR.out.below hw.out hB).cell hlt
        have hdx := HX.out.1.get (by omega) k
        obtain ⟨d, hd1⟩ : ∃ d, xs.getD k 0 = d := ⟨_, rfl⟩
        rw [hd1] at hx hdx
        have HD1 := Lib.hid hd1
        have hk0 : (0 : Int) ≤ (k : Int) ∧ (k : Int) < (n : Int) := by omega
        obtain ⟨hk0, hk1⟩ := hk0
        clear hd1
        go_wp2_with fail
        clear hx
        go_loopw [14, 62] (fun cv jv wi => ∃ (j cN : Nat) (M : List Nat), j ≤ n' ∧ jv = .int .i64 j ∧ cv = .int .u64 cN ∧ cN < 4294967296 ∧ Hid (M.length = n + n') ∧ Hid (DigN 4294967296 M) ∧ Hid (valB 4294967296 M + 4294967296 ^ (k + j) * cN = valB 4294967296 (xs.take k) * y + 4294967296 ^ k * (d * valB 4294967296 (ys.take j))) ∧ Hid (∀ p, k + n' ≤ p → M.getD p 0 = 0) ∧ Hid (BlkN .u32 73 wi g M) ∧ Hid (Below w.heap.size w wi)) (fun _ j _ => n' - (intOf j).toNat)
        case atStart => exact ⟨0, 0, L, Nat.zero_le _, rfl, rfl, by omega, hL, hD, by show _ = _; rw [hI.out]; simp [valB], hZ, hb, hw⟩
        case round =>
          clear hL hD hI hZ hb hw
          obtain ⟨j, cN, M, hj, rfl, rfl, hcN, hL, hD, hI, hZ, hb, hw⟩ := hrel
          by_cases hjt : j < n'
          · obtain ⟨q', o', rfl, hq'⟩ := HR'.out.addr (by omega)
            have hy := (HR'.out.below hw.out hB).cell hjt
            have hold := hb.out.cell (i := k + j) (by rw [hL.out]; omega)
            have hfr := hb.out.frozen (k + j)
            have hdy := HX'.out.1.get (by omega) j
            have hdo := hD.out.get (by omega) (k + j)
            obtain ⟨f, hf1⟩ : ∃ d, ys.getD j 0 = d := ⟨_, rfl⟩
            obtain ⟨v, hv1⟩ : ∃ d, M.getD (k + j) 0 = d := ⟨_, rfl⟩
            rw [hf1] at hy hdy
            rw [hv1] at hold hdo
            have HF := Lib.hid hf1
            have HV1 := Lib.hid hv1
            have hp9 := Nat.mul_le_mul (show d ≤ 4294967295 by omega) (show f ≤ 4294967295 by omega)
            obtain ⟨p, hp⟩ : ∃ p, d * f = p := ⟨_, rfl⟩
            obtain ⟨s, hs⟩ : ∃ s, cN + (p + v) = s := ⟨_, rfl⟩
            have HP := Lib.hid hp
            rw [hp] at hp9
            have HS := Lib.hid hs
            have hs9 : s < 18446744073709551616 := by omega
            have HNEW := Lib.hid (mul_step (b := 4294967296) (Y := ys) (x := d) (s := s) (by rw [hL.out]; omega) (by rw [HF.out, HV1.out, HP.out, ← hs]; omega) hI.out)
            have hpi : (d : Int) * (f : Int) = (p : Int) := by rw [← hp]; exact (Int.natCast_mul d f).symm
            obtain ⟨u, hu⟩ : ∃ u, p + v = u := ⟨_, rfl⟩
            have hui : (p : Int) + (v : Int) = (u : Int) := by omega
            have hsi : (cN : Int) + (u : Int) = (s : Int) := by omega
            have hu9 : u < 18446744073709551616 := by omega
            obtain ⟨m, hm⟩ : ∃ m, k + j = m := ⟨_, rfl⟩
            have hmi : (k : Int) + (j : Int) = (m : Int) := by omega
            rw [hm] at hold hfr HNEW
            have HM := Lib.hid hm
            have hset := hb.out.set m (s % 4294967296)
            rw [show ((s % 4294967296 : Nat) : Int) = (s : Int) % 4294967296 by omega] at hset
            have HSET := Lib.hid hset
            have hj0 : (0 : Int) ≤ (j : Int) ∧ (j : Int) < (n' : Int) := by omega
            obtain ⟨hj0, hj1⟩ := hj0
            have hs2 : s / 4294967296 < 4294967296 := by omega
            have hm9 : m < n + n' := by omega
            clear hf1 hv1 hp hs hu hm hset
            go_wp2_with fail
            go_roundw
            case rel =>
              refine ⟨j + 1, s / 4294967296, _, by omega, by go_num, rfl, hs2, ?_, ?_, HNEW, ?_, HSET, ?_⟩
              · show _ = _; rw [List.length_set]; exact hL.out
              · exact hD.out.set (Nat.mod_lt _ (by omega)) m
              · intro p9 hp9
                rw [getDn_set_ne (by have := HM.out; omega)]
                exact hZ.out p9 hp9
              · exact hw.out.setCell HG.out _
            case measure => simp [intOf] <;> omega
          · obtain rfl : j = n' := by omega
            have hold := hb.out.cell (i := k + j) (by rw [hL.out]; omega)
            have hfr := hb.out.frozen (k + j)
            obtain ⟨m, hm⟩ : ∃ m, k + j = m := ⟨_, rfl⟩
            have hmi : (k : Int) + (j : Int) = (m : Int) := by omega
            rw [hm] at hold hfr
            have HM := Lib.hid hm
            have hset := hb.out.set m cN
            have HSET := Lib.hid hset
            have hm9 : m < n + j := by omega
            have hc9 : (cN : Int) < 4294967296 := by omega
            have HNEW : Hid (valB 4294967296 (M.set m cN) = valB 4294967296 (xs.take (k + 1)) * y) := by
              show _ = _
              rw [valB_take_succ', HD1.out, Nat.add_mul, Nat.mul_assoc]
              refine mul_last (by rw [hL.out]; exact hm9) (hZ.out m (by omega)) ?_
              have h1 := hI.out
              rw [hm, List.take_of_length_le (l := ys) (by rw [HL'.out]; exact Nat.le_refl _), HV'.out] at h1
              exact h1
            clear hm hset
            go_wp2_with fail
            go_roundw
            case rel =>
              refine ⟨k + 1, _, by omega, by go_num, ?_, ?_, HNEW, ?_, HSET, ?_⟩
              · show _ = _; rw [List.length_set]; exact hL.out
              · exact hD.out.set (by omega) m
              · intro p9 hp9
                rw [getDn_set_ne (by have := HM.out; omega)]
                exact hZ.out p9 (by omega)
              · exact hw.out.setCell HG.out _
            case measure => simp [intOf] <;> omega
      · obtain rfl : k = n := by omega
        have HVL : Hid (valB 4294967296 L = x * y) := by
          show _ = _
          rw [hI.out, List.take_of_length_le (by rw [HL.out]; omega), HV.out]
        go_wp2_with fail
        refine (NTRIM_blk _ _ _ _ _ hb hL (by unfold maxLen; omega) hD HVL).mono ?_
        rintro e w9 ⟨⟨m, rfl, h1, h2⟩, rfl⟩
        have H1 := Lib.hid h1
        clear h1
        go_wp2_with fail
        go_ret
        exact ⟨_, _, _, rfl, H1.out, h2, hw.out⟩
  · have hx9' : 18446744073709551616 ≤ x := by omega
    clear hxy hx9
    go_enter Tryd.func50, Tryd.ntmps50
    go_wp2_with fail
    refine (NSMALL_no A n c x hx9' _ B hh).mono ?_
    rintro e w1 ⟨rfl, hb1⟩
    have HB1 := Lib.hid hb1
    clear hb1 hh hh' hx9'
    go_wp2_with fail
    obtain ⟨g, hg⟩ : ∃ g, g = w1.heap.size := ⟨_, rfl⟩
    rw [← hg]
    have HG := Lib.hid (show w.heap.size ≤ g by rw [hg]; exact HB1.out.size)
    obtain ⟨W, hW⟩ : ∃ W, W = w1.alloc (.cells (cellsN .u32 (List.replicate (n + n') 0)) 73) := ⟨_, rfl⟩
    have HB0 : Hid (BlkN .u32 73 W g (List.replicate (n + n') 0)) := by rw [hW, hg]; exact BlkN.mk _ _ _ _
    have HW0 : Hid (Below w.heap.size w W) := by show Below _ _ _; rw [hW]; exact HB1.out.alloc HB1.out.size _
    rw [← hW]
    clear hW hg hmk
    go_loopw [55] (fun i wr => ∃ (k : Nat) (L : List Nat), k ≤ n ∧ i = .int .i64 k ∧ Hid (L.length = n + n') ∧ Hid (DigN 4294967296 L) ∧ Hid (valB 4294967296 L = valB 4294967296 (xs.take k) * y) ∧ Hid (∀ p, k + n' ≤ p → L.getD p 0 = 0) ∧ Hid (BlkN .u32 73 wr g L) ∧ Hid (Below w.heap.size w wr)) (fun i _ => n - (intOf i).toNat)
    case atStart => exact ⟨0, _, Nat.zero_le _, rfl, by show _ = _; simp, DigN.zeros (by omega) _, by show _ = _; rw [valB_zeros]; simp [valB], fun p _ => getD_zeros _ p, HB0, HW0⟩
    case round =>
      obtain ⟨k, L, hk, rfl, hL, hD, hI, hZ, hb, hw⟩ := hrel
      by_cases hlt : k < n
      · obtain ⟨wo, rfl⟩ : ∃ wo : World, wo = wr := ⟨_, rfl⟩
        obtain ⟨q, o, rfl, hq⟩ := HR.out.addr (by omega)
        have hx := (HR.out.below hw.out hB).cell hlt
        have hdx := HX.out.1.get (by omega) k
        obtain ⟨d, hd1⟩ : ∃ d, xs.getD k 0 = d := ⟨_, rfl⟩
        rw [hd1] at hx hdx
        have HD1 := Lib.hid hd1
        have hk0 : (0 : Int) ≤ (k : Int) ∧ (k : Int) < (n : Int) := by omega
        obtain ⟨hk0, hk1⟩ := hk0
        clear hd1
        go_wp2_with fail
        clear hx
        go_loopw [14, 62] (fun cv jv wi => ∃ (j cN : Nat) (M : List Nat), j ≤ n' ∧ jv = .int .i64 j ∧ cv = .int .u64 cN ∧ cN < 4294967296 ∧ Hid (M.length = n + n') ∧ Hid (DigN 4294967296 M) ∧ Hid (valB 4294967296 M + 4294967296 ^ (k + j) * cN = valB 4294967296 (xs.take k) * y + 4294967296 ^ k * (d * valB 4294967296 (ys.take j))) ∧ Hid (∀ p, k + n' ≤ p → M.getD p 0 = 0) ∧ Hid (BlkN .u32 73 wi g M) ∧ Hid (Below w.heap.size w wi)) (fun _ j _ => n' - (intOf j).toNat)
        case atStart => exact ⟨0, 0, L, Nat.zero_le _, rfl, rfl, by omega, hL, hD, by show _ = _; rw [hI.out]; simp [valB], hZ, hb, hw⟩
        case round =>
          clear hL hD hI hZ hb hw
          obtain ⟨j, cN, M, hj, rfl, rfl, hcN, hL, hD, hI, hZ, hb, hw⟩ := hrel
          by_cases hjt : j < n'
          · obtain ⟨q', o', rfl, hq'⟩ := HR'.out.addr (by omega)
            have hy := (HR'.out.below hw.out hB).cell hjt
            have hold := hb.out.cell (i := k + j) (by rw [hL.out]; omega)
            have hfr := hb.out.frozen (k + j)
            have hdy := HX'.out.1.get (by omega) j
            have hdo := hD.out.get (by omega) (k + j)
            obtain ⟨f, hf1⟩ : ∃ d, ys.getD j 0 = d := ⟨_, rfl⟩
            obtain ⟨v, hv1⟩ : ∃ d, M.getD (k + j) 0 = d := ⟨_, rfl⟩
            rw [hf1] at hy hdy
            rw [hv1] at hold hdo
            have HF := Lib.hid hf1
            have HV1 := Lib.hid hv1
            have hp9 := Nat.mul_le_mul (show d ≤ 4294967295 by omega) (show f ≤ 4294967295 by omega)
            obtain ⟨p, hp⟩ : ∃ p, d * f = p := ⟨_, rfl⟩
            obtain ⟨s, hs⟩ : ∃ s, cN + (p + v) = s := ⟨_, rfl⟩
            have HP := Lib.hid hp
            rw [hp] at hp9
            have HS := Lib.hid hs
            have hs9 : s < 18446744073709551616 := by omega
            have HNEW := Lib.hid (mul_step (b := 4294967296) (Y := ys) (x := d) (s := s) (by rw [hL.out]; omega) (by rw [HF.out, HV1.out, HP.out, ← hs]; omega) hI.out)
            have hpi : (d : Int) * (f : Int) = (p : Int) := by rw [← hp]; exact (Int.natCast_mul d f).symm
            obtain ⟨u, hu⟩ : ∃ u, p + v = u := ⟨_, rfl⟩
            have hui : (p : Int) + (v : Int) = (u : Int) := by omega
            have hsi : (cN : Int) + (u : Int) = (s : Int) := by omega
            have hu9 : u < 18446744073709551616 := by omega
            obtain ⟨m, hm⟩ : ∃ m, k + j = m := ⟨_, rfl⟩
            have hmi : (k : Int) + (j : Int) = (m : Int) := by omega
            rw [hm] at hold hfr HNEW
            have HM := Lib.hid hm
            have hset := hb.out.set m (s % 4294967296)
            rw [show ((s % 4294967296 : Nat) : Int) = (s : Int) % 4294967296 by omega] at hset
            have HSET := Lib.hid hset
            have hj0 : (0 : Int) ≤ (j : Int) ∧ (j : Int) < (n' : Int) := by omega
            obtain ⟨hj0, hj1⟩ := hj0
            have hs2 : s / 4294967296 < 4294967296 := by omega
            have hm9 : m < n + n' := by omega
            clear hf1 hv1 hp hs hu hm hset
            go_wp2_with fail
            go_roundw
            case rel =>
              refine ⟨j + 1, s / 4294967296, _, by omega, by go_num, rfl, hs2, ?_, ?_, HNEW, ?_, HSET, ?_⟩
              · show _ = _; rw [List.length_set]; exact hL.out
              · exact hD.out.set (Nat.mod_lt _ (by omega)) m
              · intro p9 hp9
                rw [getDn_set_ne (by have := HM.out; omega)]
                exact hZ.out p9 hp9
              · exact hw.out.setCell HG.out _
            case measure => simp [intOf] <;> omega
          · obtain rfl : j = n' := by omega
            have hold := hb.out.cell (i := k + j) (by rw [hL.out]; omega)
            have hfr := hb.out.frozen (k + j)
            obtain ⟨m, hm⟩ : ∃ m, k + j = m := ⟨_, rfl⟩
            have hmi : (k : Int) + (j : Int) = (m : Int) := by omega
            rw [hm] at hold hfr
            have HM := Lib.hid hm
            have hset := hb.out.set m cN
            have HSET := Lib.hid hset
            have hm9 : m < n + j := by omega
            have hc9 : (cN : Int) < 4294967296 := by omega
            have HNEW : Hid (valB 4294967296 (M.set m cN) = valB 4294967296 (xs.take (k + 1)) * y) := by
              show _ = _
              rw [valB_take_succ', HD1.out, Nat.add_mul, Nat.mul_assoc]
              refine mul_last (by rw [hL.out]; exact hm9) (hZ.out m (by omega)) ?_
              have h1 := hI.out
              rw [hm, List.take_of_length_le (l := ys) (by rw [HL'.out]; exact Nat.le_refl _), HV'.out] at h1
              exact h1
            clear hm hset
            go_wp2_with fail
            go_roundw
            case rel =>
              refine ⟨k + 1, _, by omega, by go_num, ?_, ?_, HNEW, ?_, HSET, ?_⟩
              · show _ = _; rw [List.length_set]; exact hL.out
              · exact hD.out.set (by omega) m
              · intro p9 hp9
                rw [getDn_set_ne (by have := HM.out; omega)]
                exact hZ.out p9 (by omega)
              · exact hw.out.setCell HG.out _
            case measure => simp [intOf] <;> omega
      · obtain rfl : k = n := by omega
        have HVL : Hid (valB 4294967296 L = x * y) := by
          show _ = _
          rw [hI.out, List.take_of_length_le (by rw [HL.out]; omega), HV.out]
        go_wp2_with fail
        refine (NTRIM_blk _ _ _ _ _ hb hL (by unfold maxLen; omega) hD HVL).mono ?_
        rintro e w9 ⟨⟨m, rfl, h1, h2⟩, rfl⟩
        have H1 := Lib.hid h1
        clear h1
        go_wp2_with fail
        go_ret
        exact ⟨_, _, _, rfl, H1.out, h2, hw.out⟩
theorem NMUL_any (A A' : Option Addr) (n c x n' c' y : Nat) (hn : n ≤ 400000000000) (hn' : n' ≤ 400000000000) (w : World) (B : Nat) (hB : B ≤ w.heap.size) (hh : Hid (NumAt .u32 73 4294967296 w B A n c x)) (hh' : Hid (NumAt .u32 73 4294967296 w B A' n' c' y)) :
    Calls Tryd.prog 50 #[.slice A n c, .slice A' n' c'] w (OutN w (x * y) (n + n')) := by
  by_cases h : x < 18446744073709551616 ∧ y < 18446744073709551616
  · refine (NMUL_small A A' n c x n' c' y h.1 h.2 w B hB hh hh').mono fun e w' ⟨A2, m, c2, h1, h2, h3, h4⟩ => ⟨A2, m, c2, h1, h2, ?_, h4⟩
    refine h2.len_le (by omega) ?_
    rw [Nat.pow_add]
    exact Nat.mul_lt_mul'' hh.out.lt_pow hh'.out.lt_pow
  · exact NMUL_big A A' n c x n' c' y hn hn' (by omega) w B hB hh hh'
end Go.Proofs.YtcjdmffflepplaaDoor
