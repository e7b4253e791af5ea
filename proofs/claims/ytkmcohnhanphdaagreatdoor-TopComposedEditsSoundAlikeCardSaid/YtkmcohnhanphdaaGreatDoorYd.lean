/- num.Nat: Mul. -/
import Derived.Test.YtkmcohnhanphdaaGreatDoorYc
import Derived.Test.YtkmcohnhanphdaaGreatDoorShelf
import Derived.Test.YtkmcohnhanphdaaGreatDoorYa
import Derived.Laws.CopyOwn
import Derived.Deep.Cut
import Derived.Deep.DeepCutAuto
set_option linter.unusedSimpArgs false
set_option linter.unusedVariables false
namespace Go.Proofs.YtkmcohnhanphdaaGreatDoor
open Go.RowKit Go.Dw
theorem NSMALL_yes (A : Option Addr) (n c x : Nat) (hx : x < 18446744073709551616) (w : World) (B : Nat) (hh : Hid (NumAt .u32 164 4294967296 w B A n c x)) :
    Calls Tryz.prog 117 #[.slice A n c] w fun e w' => e = .returned (.tuple #[.int .u64 x, .bool true]) ∧ Below w.heap.size w w' :=
  (NSMALL_any A n c x w B hh).mono fun e w' ⟨h1, q, h2⟩ => ⟨by rw [h1]; unfold smallN; rw [if_pos hx], by rw [h2]; exact belowN (Below.refl _ _) q⟩
theorem NSMALL_no (A : Option Addr) (n c x : Nat) (hx : 18446744073709551616 ≤ x) (w : World) (B : Nat) (hh : Hid (NumAt .u32 164 4294967296 w B A n c x)) :
    Calls Tryz.prog 117 #[.slice A n c] w fun e w' => e = .returned (.tuple #[.int .u64 0, .bool false]) ∧ Below w.heap.size w w' :=
  (NSMALL_any A n c x w B hh).mono fun e w' ⟨h1, q, h2⟩ => ⟨by rw [h1]; unfold smallN; rw [if_neg (by omega)]; rfl, by rw [h2]; exact belowN (Below.refl _ _) q⟩
theorem NCMP_below (A A' : Option Addr) (n c x n' c' y : Nat) (w : World) (B : Nat) (hh : Hid (NumAt .u32 164 4294967296 w B A n c x)) (hh' : Hid (NumAt .u32 164 4294967296 w B A' n' c' y)) :
    Calls Tryz.prog 71 #[.slice A n c, .slice A' n' c'] w fun e w' => e = .returned (.int .i64 (cmpN x y)) ∧ Below w.heap.size w w' :=
  (NCMP_any A A' n c x n' c' y w B hh hh').mono fun e w' ⟨h1, q, h2⟩ => ⟨h1, by rw [h2]; exact belowN (Below.refl _ _) q⟩
theorem mkNat2 (n n' : Nat) (hn : n ≤ 400000000000) (hn' : n' ≤ 400000000000) (W : World) : (Instr.makeSlice 80 (.int .i64 ((n : Int) + (n' : Int))) (.int .i64 ((n : Int) + (n' : Int)))).run Tryz.prog W = .ok (.slice (some ⟨W.heap.size, 0, none⟩) (n + n') (n + n')) (W.alloc (.cells (cellsN .u32 (List.replicate (n + n') 0)) 164)) := by
  have := mkNat (n + n') (by omega) W
  rwa [show ((n + n' : Nat) : Int) = (n : Int) + (n' : Int) by omega] at this
theorem blk4 (w : World) (h l : Nat) : BlkN .u32 164 (w.alloc (.cells #[.int .u32 ((l : Int) % 4294967296), .int .u32 ((l : Int) / 4294967296), .int .u32 ((h : Int) % 4294967296), .int .u32 ((h : Int) / 4294967296)] 164)) w.heap.size [l % 4294967296, l / 4294967296, h % 4294967296, h / 4294967296] := by
  have h := BlkN.mk .u32 164 w [l % 4294967296, l / 4294967296, h % 4294967296, h / 4294967296]
  simpa [cellsN] using h
set_option maxRecDepth 100000 in
set_option maxHeartbeats 2000000 in
theorem NMUL_small (A A' : Option Addr) (n c x n' c' y : Nat) (hx : x < 18446744073709551616) (hy : y < 18446744073709551616) (w : World) (B : Nat) (hB : B ≤ w.heap.size) (hh : Hid (NumAt .u32 164 4294967296 w B A n c x)) (hh' : Hid (NumAt .u32 164 4294967296 w B A' n' c' y)) :
    Calls Tryz.prog 69 #[.slice A n c, .slice A' n' c'] w (OutN w (x * y) 4) := by
  go_enter Tryz.func69, Tryz.ntmps69
  go_wp2_with fail
  refine (NSMALL_yes A n c x hx _ B hh).mono ?_
  rintro e w1 ⟨rfl, hb1⟩
  have HB1 := Lib.hid hb1
  clear hb1
  go_wp2_with fail
  refine (NSMALL_yes A' n' c' y hy _ B (Lib.hid (hh'.out.below HB1.out hB))).mono ?_
  rintro e w2 ⟨rfl, hb2⟩
  have HB2 := Lib.hid (HB1.out.trans (hb2.mono HB1.out.size))
  clear hb2
  go_wp2_with fail
  refine (Tryz.bits_Mul64 x y hx hy _).mono ?_
  rintro e w1 ⟨rfl, rfl⟩
  have hp : x * y < 340282366920938463463374607431768211456 := by
    have := Nat.mul_le_mul (show x ≤ 18446744073709551615 by omega) (show y ≤ 18446744073709551615 by omega)
    omega
  obtain ⟨p, hp1⟩ : ∃ p, x * y = p := ⟨_, rfl⟩
  have HXY := Lib.hid hp1
  rw [hp1] at hp ⊢
  obtain ⟨h, hh1⟩ : ∃ h, p / 18446744073709551616 = h := ⟨_, rfl⟩
  obtain ⟨l, hl1⟩ : ∃ l, p % 18446744073709551616 = l := ⟨_, rfl⟩
  rw [hh1, hl1]
  have hh2 : h < 18446744073709551616 := by omega
  have hl2 : l < 18446744073709551616 := by omega
  have HP := Lib.hid (show p = l + 18446744073709551616 * h by omega)
  clear hp hp1 hh1 hl1
  have HX := Lib.hid hx
  have HY := Lib.hid hy
  clear hx hy
  go_wp2_with fail
  have hbl := blk4 w1 h l
  have hbb := Lib.hid (HB2.out.alloc HB2.out.size (.cells #[.int .u32 ((l : Int) % 4294967296), .int .u32 ((l : Int) / 4294967296), .int .u32 ((h : Int) % 4294967296), .int .u32 ((h : Int) / 4294967296)] 164))
  refine (NTRIM_blk _ 4 _ p _ (Lib.hid hbl) rfl (by decide) (DigN.cons (by omega) (DigN.cons (by omega) (DigN.cons (by omega) (DigN.cons (by omega) (DigN.nil _))))) (by show _ = _; rw [HP.out]; simp only [valB]; omega)).mono ?_
  rintro e w9 ⟨⟨m, rfl, h1, h2⟩, rfl⟩
  have H1 := Lib.hid h1
  clear h1 hbl
  go_wp2_with fail
  go_ret
  exact ⟨_, _, _, rfl, by rw [HXY.out]; exact H1.out, h2, hbb.out⟩
theorem getD_zeros (n p : Nat) : (List.replicate n 0).getD p 0 = 0 := by
  by_cases h : p < n
  · simp [List.getD, h]
  · exact getD_over (by simp; omega)
set_option maxRecDepth 100000 in
set_option maxHeartbeats 2000000 in
theorem NMUL_big (A A' : Option Addr) (n c x n' c' y : Nat) (hn : n ≤ 400000000000) (hn' : n' ≤ 400000000000) (hxy : 18446744073709551616 ≤ x ∨ 18446744073709551616 ≤ y) (w : World) (B : Nat) (hB : B ≤ w.heap.size) (hh : Hid (NumAt .u32 164 4294967296 w B A n c x)) (hh' : Hid (NumAt .u32 164 4294967296 w B A' n' c' y)) :
    Calls Tryz.prog 69 #[.slice A n c, .slice A' n' c'] w (OutN w (x * y) (n + n')) := by
  obtain ⟨hc1, hc2, xs, hx, hv, hr⟩ := hh.out
  obtain ⟨hc1', hc2', ys, hx', hv', hr'⟩ := hh'.out
  have hl := hr.1
  have hl' := hr'.1
  unfold maxLen at hc2 hc2'
  have HX := Lib.hid hx
  have HV := Lib.hid hv
  have HR := Lib.hid hr
  have HX' := Lib.hid hx'
  have HV' := Lib.hid hv'
  have HR' := Lib.hid hr'
  have HL := Lib.hid hl
  have HL' := Lib.hid hl'
  clear hx hv hr hx' hv' hr' hl hl'
  have hmk := mkNat2 n n' hn hn'
  by_cases hx9 : x < 18446744073709551616
  · have hy9 : 18446744073709551616 ≤ y := by omega
    clear hxy
    go_enter Tryz.func69, Tryz.ntmps69
    go_wp2_with fail
    refine (NSMALL_yes A n c x hx9 _ B hh).mono ?_
    rintro e w1 ⟨rfl, hb1⟩
    have HB1 := Lib.hid hb1
    clear hb1
    have HN9 := Lib.hid hx9
    go_wp2_with fail
    refine (NSMALL_no A' n' c' y hy9 _ B (Lib.hid (hh'.out.below HB1.out hB))).mono ?_
    rintro e w2 ⟨rfl, hb2⟩
    have HB2 := Lib.hid (HB1.out.trans (hb2.mono HB1.out.size))
    clear hb2 hh hh' hx9 hy9 HB1
    obtain ⟨w1, rfl⟩ : ∃ w1, w1 = w2 := ⟨_, rfl⟩
    have HB1 := HB2
    go_wp2_with fail
    obtain ⟨g, hg⟩ : ∃ g, g = w1.heap.size := ⟨_, rfl⟩
    rw [← hg]
    have HG := Lib.hid (show w.heap.size ≤ g by rw [hg]; exact HB1.out.size)
    obtain ⟨W, hW⟩ : ∃ W, W = w1.alloc (.cells (cellsN .u32 (List.replicate (n + n') 0)) 164) := ⟨_, rfl⟩
    have HB0 : Hid (BlkN .u32 164 W g (List.replicate (n + n') 0)) := by rw [hW, hg]; exact BlkN.mk _ _ _ _
    have HW0 : Hid (Below w.heap.size w W) := by show Below _ _ _; rw [hW]; exact HB1.out.alloc HB1.out.size _
    rw [← hW]
    clear hW hg hmk
    go_loopw [55] (fun i wr => ∃ (k : Nat) (L : List Nat), k ≤ n ∧ i = .int .i64 k ∧ Hid (L.length = n + n') ∧ Hid (DigN 4294967296 L) ∧ Hid (valB 4294967296 L = valB 4294967296 (xs.take k) * y) ∧ Hid (∀ p, k + n' ≤ p → L.getD p 0 = 0) ∧ Hid (BlkN .u32 164 wr g L) ∧ Hid (Below w.heap.size w wr)) (fun i _ => n - (intOf i).toNat)
    case atStart => exact ⟨0, _, Nat.zero_le _, rfl, by show _ = _; simp, DigN.zeros (by omega) _, by show _ = _; rw [valB_zeros]; simp [valB], fun p _ => getD_zeros _ p, HB0, HW0⟩
    case round =>
      obtain ⟨k, L, hk, rfl, hL, hD, hI, hZ, hb, hw⟩ := hrel
      by_cases hlt : k < n
      · obtain ⟨wo, rfl⟩ : ∃ wo : World, wo = wr := ⟨_, rfl⟩
        obtain ⟨q, o, rfl, hq⟩ := HR.out.addr (by omega)
        have hx := (HR.out.below hw.out hB).cell hlt
        have hdx := HX.out.1.get (by omega) k
        obtain ⟨d, hd1⟩ : ∃ d, xs.getD k 0 = d := ⟨_, rfl⟩
        rw [hd1] at hx hdx
        have HD1 := Lib.hid hd1
        have hk0 : (0 : Int) ≤ (k : Int) ∧ (k : Int) < (n : Int) := by omega
        obtain ⟨hk0, hk1⟩ := hk0
        clear hd1
        go_wp2_with fail
        clear hx
        go_loopw [14, 62] (fun cv jv wi => ∃ (j cN : Nat) (M : List Nat), j ≤ n' ∧ jv = .int .i64 j ∧ cv = .int .u64 cN ∧ cN < 4294967296 ∧ Hid (M.length = n + n') ∧ Hid (DigN 4294967296 M) ∧ Hid (valB 4294967296 M + 4294967296 ^ (k + j) * cN = valB 4294967296 (xs.take k) * y + 4294967296 ^ k * (d * valB 4294967296 (ys.take j))) ∧ Hid (∀ p, k + n' ≤ p → M.getD p 0 = 0) ∧ Hid (BlkN .u32 164 wi g M) ∧ Hid (Below w.heap.size w wi)) (fun _ j _ => n' - (intOf j).toNat)
        case atStart => exact ⟨0, 0, L, Nat.zero_le _, rfl, rfl, by omega, hL, hD, by show _ = _; rw [hI.out]; simp [valB], hZ, hb, hw⟩
        case round =>
          clear hL hD hI hZ hb hw
          obtain ⟨j, cN, M, hj, rfl, rfl, hcN, hL, hD, hI, hZ, hb, hw⟩ := hrel
          by_cases hjt : j < n'
          · obtain ⟨q', o', rfl, hq'⟩ := HR'.out.addr (by omega)
            have hy := (HR'.out.below hw.out hB).cell hjt
            have hold := hb.out.cell (i := k + j) (by rw [hL.out]; omega)
            have hfr := hb.out.frozen (k + j)
            have hdy := HX'.out.1.get (by omega) j
            have hdo := hD.out.get (by omega) (k + j)
            obtain ⟨f, hf1⟩ : ∃ d, ys.getD j 0 = d := ⟨_, rfl⟩
            obtain ⟨v, hv1⟩ : ∃ d, M.getD (k + j) 0 = d := ⟨_, rfl⟩
            rw [hf1] at hy hdy
            rw [hv1] at hold hdo
            have HF := Lib.hid hf1
            have HV1 := Lib.hid hv1
            have hp9 := Nat.mul_le_mul (show d ≤ 4294967295 by omega) (show f ≤ 4294967295 by omega)
            obtain ⟨p, hp⟩ : ∃ p, d * f = p := ⟨_, rfl⟩
            obtain ⟨s, hs⟩ : ∃ s, cN + (p + v) = s := ⟨_, rfl⟩
            have HP := Lib.hid hp
            rw [hp] at hp9
            have HS := Lib.hid hs
            have hs9 : s < 18446744073709551616 := by omega
            have HNEW := Lib.hid (mul_step (b := 4294967296) (Y := ys) (x := d) (s := s) (by rw [hL.out]; omega) (by rw [HF.out, HV1.out, HP.out, ← hs]; omega) hI.out)
            have hpi : (d : Int) * (f : Int) = (p : Int) := by rw [← hp]; exact (Int.natCast_mul d f).symm
            obtain ⟨u, hu⟩ : ∃ u, p + v = u := ⟨_, rfl⟩
            have hui : (p : Int) + (v : Int) = (u : Int) := by omega
            have hsi : (cN : Int) + (u : Int) = (s : Int) := by omega
            have hu9 : u < 18446744073709551616 := by omega
            obtain ⟨m, hm⟩ : ∃ m, k + j = m := ⟨_, rfl⟩
            have hmi : (k : Int) + (j : Int) = (m : Int) := by omega
            rw [hm] at hold hfr HNEW
            have HM := Lib.hid hm
            have hset := hb.out.set m (s % 4294967296)
            rw [show ((s % 4294967296 : Nat) : Int) = (s : Int) % 4294967296 by omega] at hset
            have HSET := Lib.hid hset
            have hj0 : (0 : Int) ≤ (j : Int) ∧ (j : Int) < (n' : Int) := by omega
            obtain ⟨hj0, hj1⟩ := hj0
            have hs2 : s / 4294967296 < 4294967296 := by omega
            have hm9 : m < n + n' := by omega
            clear hf1 hv1 hp hs hu hm hset
            go_wp2_with fail
            go_roundw
            case rel =>
              refine ⟨j + 1, s / 4294967296, _, by omega, by go_num, rfl, hs2, ?_, ?_, HNEW, ?_, HSET, ?_⟩
              · show _ = _; rw [List.length_set]; exact hL.out
              · exact hD.out.set (Nat.mod_lt _ (by omega)) m
              · intro p9 hp9
                rw [getDn_set_ne (by have := HM.out; omega)]
                exact hZ.out p9 hp9
              · exact hw.out.setCell HG.out _
            case measure => simp [intOf] <;> omega
          · obtain rfl : j = n' := by omega
            have hold := hb.out.cell (i := k + j) (by rw [hL.out]; omega)
            have hfr := hb.out.frozen (k + j)
            obtain ⟨m, hm⟩ : ∃ m, k + j = m := ⟨_, rfl⟩
            have hmi : (k : Int) + (j : Int) = (m : Int) := by omega
            rw [hm] at hold hfr
            have HM := Lib.hid hm
            have hset := hb.out.set m cN
            have HSET := Lib.hid hset
            have hm9 : m < n + j := by omega
            have hc9 : (cN : Int) < 4294967296 := by omega
            have HNEW : Hid (valB 4294967296 (M.set m cN) = valB 4294967296 (xs.take (k + 1)) * y) := by
              show _ = _
              rw [valB_take_succ', HD1.out, Nat.add_mul, Nat.mul_assoc]
              refine mul_last (by rw [hL.out]; exact hm9) (hZ.out m (by omega)) ?_
              have h1 := hI.out
              rw [hm, List.take_of_length_le (l := ys) (by rw [HL'.out]; exact Nat.le_refl _), HV'.out] at h1
              exact h1
            clear hm hset
            go_wp2_with fail
            go_roundw
            case rel =>
              refine ⟨k + 1, _, by omega, by go_num, ?_, ?_, HNEW, ?_, HSET, ?_⟩
              · show _ = _; rw [List.length_set]; exact hL.out
              · exact hD.out.set (by omega) m
              · intro p9 hp9
                rw [getDn_set_ne (by have := HM.out; omega)]
                exact hZ.out p9 (by omega)
              · exact hw.out.setCell HG.out _
            case measure => simp [intOf] <;> omega
      · obtain rfl : k = n := by omega
        have HVL : Hid (valB 4294967296 L = x * y) := by
          show _ = _
          rw [hI.out, List.take_of_length_le (by rw [HL.out]; omega), HV.out]
        go_wp2_with fail
        refine (NTRIM_blk _ _ _ _ _ hb hL (by unfold maxLen; omega) hD HVL).mono ?_
        rintro e w9 ⟨⟨m, rfl, h1, h2⟩, rfl⟩
        have H1 := Lib.hid h1
        clear h1
        go_wp2_with fail
        go_ret
        exact ⟨_, _, _, rfl, H1.out, h2, hw.out⟩
  · have hx9' : 18446744073709551616 ≤ x := by omega
    clear hxy hx9
    go_enter Tryz.func69, Tryz.ntmps69
    go_wp2_with fail
    refine (NSMALL_no A n c x hx9' _ B hh).mono ?_
    rintro e w1 ⟨rfl, hb1⟩
    have HB1 := Lib.hid hb1
    clear hb1 hh hh' hx9'
    go_wp2_with fail
    obtain ⟨g, hg⟩ : ∃ g, g = w1.heap.size := ⟨_, rfl⟩
    rw [← hg]
    have HG := Lib.hid (show w.heap.size ≤ g by rw [hg]; exact HB1.out.size)
    obtain ⟨W, hW⟩ : ∃ W, W = w1.alloc (.cells (cellsN .u32 (List.replicate (n + n') 0)) 164) := ⟨_, rfl⟩
    have HB0 : Hid (BlkN .u32 164 W g (List.replicate (n + n') 0)) := by rw [hW, hg]; exact BlkN.mk _ _ _ _
    have HW0 : Hid (Below w.heap.size w W) := by show Below _ _ _; rw [hW]; exact HB1.out.alloc HB1.out.size _
    rw [← hW]
    clear hW hg hmk
    go_loopw [55] (fun i wr => ∃ (k : Nat) (L : List Nat), k ≤ n ∧ i = .int .i64 k ∧ Hid (L.length = n + n') ∧ Hid (DigN 4294967296 L) ∧ Hid (valB 4294967296 L = valB 4294967296 (xs.take k) * y) ∧ Hid (∀ p, k + n' ≤ p → L.getD p 0 = 0) ∧ Hid (BlkN .u32 164 wr g L) ∧ Hid (Below w.heap.size w wr)) (fun i _ => n - (intOf i).toNat)
    case atStart => exact ⟨0, _, Nat.zero_le _, rfl, by show _ = _; simp, DigN.zeros (by omega) _, by show _ = _; rw [valB_zeros]; simp [valB], fun p _ => getD_zeros _ p, HB0, HW0⟩
    case round =>
      obtain ⟨k, L, hk, rfl, hL, hD, hI, hZ, hb, hw⟩ := hrel
      by_cases hlt : k < n
      · obtain ⟨wo, rfl⟩ : ∃ wo : World, wo = wr := ⟨_, rfl⟩
        obtain ⟨q, o, rfl, hq⟩ := HR.out.addr (by omega)
        have hx := (HR.out.below hw.out hB).cell hlt
        have hdx := HX.out.1.get (by omega) k
        obtain ⟨d, hd1⟩ : ∃ d, xs.getD k 0 = d := ⟨_, rfl⟩
        rw [hd1] at hx hdx
        have HD1 := Lib.hid hd1
        have hk0 : (0 : Int) ≤ (k : Int) ∧ (k : Int) < (n : Int) := by omega
        obtain ⟨hk0, hk1⟩ := hk0
        clear hd1
        go_wp2_with fail
        clear hx
        go_loopw [14, 62] (fun cv jv wi => ∃ (j cN : Nat) (M : List Nat), j ≤ n' ∧ jv = .int .i64 j ∧ cv = .int .u64 cN ∧ cN < 4294967296 ∧ Hid (M.length = n + n') ∧ Hid (DigN 4294967296 M) ∧ Hid (valB 4294967296 M + 4294967296 ^ (k + j) * cN = valB 4294967296 (xs.take k) * y + 4294967296 ^ k * (d * valB 4294967296 (ys.take j))) ∧ Hid (∀ p, k + n' ≤ p → M.getD p 0 = 0) ∧ Hid (BlkN .u32 164 wi g M) ∧ Hid (Below w.heap.size w wi)) (fun _ j _ => n' - (intOf j).toNat)
        case atStart => exact ⟨0, 0, L, Nat.zero_le _, rfl, rfl, by omega, hL, hD, by show _ = _; rw [hI.out]; simp [valB], hZ, hb, hw⟩
        case round =>
          clear hL hD hI hZ hb hw
          obtain ⟨j, cN, M, hj, rfl, rfl, hcN, hL, hD, hI, hZ, hb, hw⟩ := hrel
          by_cases hjt : j < n'
          · obtain ⟨q', o', rfl, hq'⟩ := HR'.out.addr (by omega)
            have hy := (HR'.out.below hw.out hB).cell hjt
            have hold := hb.out.cell (i := k + j) (by rw [hL.out]; omega)
            have hfr := hb.out.frozen (k + j)
            have hdy := HX'.out.1.get (by omega) j
            have hdo := hD.out.get (by omega) (k + j)
            obtain ⟨f, hf1⟩ : ∃ d, ys.getD j 0 = d := ⟨_, rfl⟩
            obtain ⟨v, hv1⟩ : ∃ d, M.getD (k + j) 0 = d := ⟨_, rfl⟩
            rw [hf1] at hy hdy
            rw [hv1] at hold hdo
            have HF := Lib.hid hf1
            have HV1 := Lib.hid hv1
            have hp9 := Nat.mul_le_mul (show d ≤ 4294967295 by omega) (show f ≤ 4294967295 by omega)
            obtain ⟨p, hp⟩ : ∃ p, d * f = p := ⟨_, rfl⟩
            obtain ⟨s, hs⟩ : ∃ s, cN + (p + v) = s := ⟨_, rfl⟩
            have HP := Lib.hid hp
            rw [hp] at hp9
            have HS := Lib.hid hs
            have hs9 : s < 18446744073709551616 := by omega
            have HNEW := Lib.hid (mul_step (b := 4294967296) (Y := ys) (x := d) (s := s) (by rw [hL.out]; omega) (by rw [HF.out, HV1.out, HP.out, ← hs]; omega) hI.out)
            have hpi : (d : Int) * (f : Int) = (p : Int) := by rw [← hp]; exact (Int.natCast_mul d f).symm
            obtain ⟨u, hu⟩ : ∃ u, p + v = u := ⟨_, rfl⟩
            have hui : (p : Int) + (v : Int) = (u : Int) := by omega
            have hsi : (cN : Int) + (u : Int) = (s : Int) := by omega
            have hu9 : u < 18446744073709551616 := by omega
            obtain ⟨m, hm⟩ : ∃ m, k + j = m := ⟨_, rfl⟩
            have hmi : (k : Int) + (j : Int) = (m : Int) := by omega
            rw [hm] at hold hfr HNEW
            have HM := Lib.hid hm
            have hset := hb.out.set m (s % 4294967296)
            rw [show ((s % 4294967296 : Nat) : Int) = (s : Int) % 4294967296 by omega] at hset
            have HSET := Lib.hid hset
            have hj0 : (0 : Int) ≤ (j : Int) ∧ (j : Int) < (n' : Int) := by omega
            obtain ⟨hj0, hj1⟩ := hj0
            have hs2 : s / 4294967296 < 4294967296 := by omega
            have hm9 : m < n + n' := by omega
            clear hf1 hv1 hp hs hu hm hset
            go_wp2_with fail
            go_roundw
            case rel =>
              refine ⟨j + 1, s / 4294967296, _, by omega, by go_num, rfl, hs2, ?_, ?_, HNEW, ?_, HSET, ?_⟩
              · show _ = _; rw [List.length_set]; exact hL.out
              · exact hD.out.set (Nat.mod_lt _ (by omega)) m
              · intro p9 hp9
                rw [getDn_set_ne (by have := HM.out; omega)]
                exact hZ.out p9 hp9
              · exact hw.out.setCell HG.out _
            case measure => simp [intOf] <;> omega
          · obtain rfl : j = n' := by omega
            have hold := hb.out.cell (i := k + j) (by rw [hL.out]; omega)
            have hfr := hb.out.frozen (k + j)
            obtain ⟨m, hm⟩ : ∃ m, k + j = m := ⟨_, rfl⟩
            have hmi : (k : Int) + (j : Int) = (m : Int) := by omega
            rw [hm] at hold hfr
            have HM := Lib.hid hm
            have hset := hb.out.set m cN
            have HSET := Lib.hid hset
            have hm9 : m < n + j := by omega
            have hc9 : (cN : Int) < 4294967296 := by omega
            have HNEW : Hid (valB 4294967296 (M.set m cN) = valB 4294967296 (xs.take (k + 1)) * y) := by
              show _ = _
              rw [valB_take_succ', HD1.out, Nat.add_mul, Nat.mul_assoc]
              refine mul_last (by rw [hL.out]; exact hm9) (hZ.out m (by omega)) ?_
              have h1 := hI.out
              rw [hm, List.take_of_length_le (l := ys) (by rw [HL'.out]; exact Nat.le_refl _), HV'.out] at h1
              exact h1
            clear hm hset
            go_wp2_with fail
            go_roundw
            case rel =>
              refine ⟨k + 1, _, by omega, by go_num, ?_, ?_, HNEW, ?_, HSET, ?_⟩
              · show _ = _; rw [List.length_set]; exact hL.out
              · exact hD.out.set (by omega) m
              · intro p9 hp9
                rw [getDn_set_ne (by have := HM.out; omega)]
                exact hZ.out p9 (by omega)
              · exact hw.out.setCell HG.out _
            case measure => simp [intOf] <;> omega
      · obtain rfl : k = n := by omega
        have HVL : Hid (valB 4294967296 L = x * y) := by
          show _ = _
          rw [hI.out, List.take_of_length_le (by rw [HL.out]; omega), HV.out]
        go_wp2_with fail
        refine (NTRIM_blk _ _ _ _ _ hb hL (by unfold maxLen; omega) hD HVL).mono ?_
        rintro e w9 ⟨⟨m, rfl, h1, h2⟩, rfl⟩
        have H1 := Lib.hid h1
        clear h1
        go_wp2_with fail
        go_ret
        exact ⟨_, _, _, rfl, H1.out, h2, hw.out⟩
theorem NMUL_any (A A' : Option Addr) (n c x n' c' y : Nat) (hn : n ≤ 400000000000) (hn' : n' ≤ 400000000000) (w : World) (B : Nat) (hB : B ≤ w.heap.size) (hh : Hid (NumAt .u32 164 4294967296 w B A n c x)) (hh' : Hid (NumAt .u32 164 4294967296 w B A' n' c' y)) :
    Calls Tryz.prog 69 #[.slice A n c, .slice A' n' c'] w (OutN w (x * y) (n + n')) := by
  by_cases h : x < 18446744073709551616 ∧ y < 18446744073709551616
  · refine (NMUL_small A A' n c x n' c' y h.1 h.2 w B hB hh hh').mono fun e w' ⟨A2, m, c2, h1, h2, h3, h4⟩ => ⟨A2, m, c2, h1, h2, ?_, h4⟩
    refine h2.len_le (by omega) ?_
    rw [Nat.pow_add]
    exact Nat.mul_lt_mul'' hh.out.lt_pow hh'.out.lt_pow
  · exact NMUL_big A A' n c x n' c' y hn hn' (by omega) w B hB hh hh'
end Go.Proofs.YtkmcohnhanphdaaGreatDoor
/- num.Nat: divWord, left. -/
namespace Go.Proofs.YtkmcohnhanphdaaGreatDoor
open Go.RowKit Go.Dw
def OutN2 (w : World) (x y k l : Nat) (e : Ending) (w' : World) : Prop := ∃ A n c A' n' c', e = .returned (.tuple #[.slice A n c, .slice A' n' c']) ∧ NumAt .u32 164 4294967296 w' w'.heap.size A n c x ∧ NumAt .u32 164 4294967296 w' w'.heap.size A' n' c' y ∧ n ≤ k ∧ n' ≤ l ∧ Below w.heap.size w w'
set_option maxRecDepth 100000 in
set_option maxHeartbeats 2000000 in
theorem NDIVW_own (A : Option Addr) (n c x b : Nat) (hn : n ≤ 1000000000000) (hb0 : 0 < b) (hb1 : b < 4294967296) (w : World) (B : Nat) (hB : B ≤ w.heap.size) (hh : Hid (NumAt .u32 164 4294967296 w B A n c x)) :
    Calls Tryz.prog 147 #[.slice A n c, .int .u64 b] w fun e w' => ∃ g m A' n' c', e = .returned (.tuple #[.slice (some ⟨g, 0, none⟩) m n, .slice A' n' c']) ∧ NumAt .u32 164 4294967296 w' w'.heap.size (some ⟨g, 0, none⟩) m n (x / b) ∧ NumAt .u32 164 4294967296 w' w'.heap.size A' n' c' (x % b) ∧ m ≤ n ∧ n' ≤ 2 ∧ Below w.heap.size w w' ∧ w.heap.size ≤ g ∧ g < w'.heap.size := by
  obtain ⟨hc1, hc2, xs, hx, hv, hr⟩ := hh.out
  have hl := hr.1
  unfold maxLen at hc2
  have HX := Lib.hid hx
  have HV := Lib.hid hv
  have HR := Lib.hid hr
  have HL := Lib.hid hl
  clear hx hv hr hl hh
  have hmk := mkNat n (by omega)
  go_enter Tryz.func147, Tryz.ntmps147
  go_wp2_with fail
  obtain ⟨g, hg⟩ : ∃ g, g = w.heap.size := ⟨_, rfl⟩
  rw [← hg]
  have HG := Lib.hid (show w.heap.size ≤ g by rw [hg]; exact Nat.le_refl _)
  obtain ⟨W, hW⟩ : ∃ W, W = w.alloc (.cells (cellsN .u32 (List.replicate n 0)) 164) := ⟨_, rfl⟩
  have HB0 : Hid (BlkN .u32 164 W g (List.replicate n 0)) := by rw [hW, hg]; exact BlkN.mk _ _ _ _
  have HW0 : Hid (Below w.heap.size w W) := by show Below _ _ _; rw [hW]; exact (Below.refl _ _).alloc (Nat.le_refl _) _
  rw [← hW]
  clear hW hg hmk
  go_loopw [7, 8] (fun rv i wr => ∃ (k r : Nat) (z : Int) (L : List Nat), k ≤ n ∧ i = .int .i64 z ∧ Hid (z = (k : Int) - 1) ∧ rv = .int .u64 r ∧ r < b ∧ Hid (L.length = n) ∧ Hid (DigN 4294967296 L) ∧ Hid (valB 4294967296 (xs.drop k) = valB 4294967296 (L.drop k) * b + r) ∧ Hid (BlkN .u32 164 wr g L) ∧ Hid (Below w.heap.size w wr)) (fun _ i _ => (intOf i + 1).toNat)
  case atStart =>
    refine ⟨n, 0, _, _, Nat.le_refl _, rfl, rfl, rfl, hb0, by show _ = _; simp, DigN.zeros (by omega) _, ?_, HB0, HW0⟩
    show _ = _
    rw [List.drop_of_length_le (by rw [HL.out]; exact Nat.le_refl _), List.drop_of_length_le (by simp)]; simp [valB]
  case round =>
    obtain ⟨k, r, z, L, hk, rfl, hz, rfl, hrb, hL, hD, hI, hb, hw⟩ := hrel
    by_cases h0 : 0 < k
    · obtain ⟨j, rfl⟩ : ∃ j, k = j + 1 := ⟨k - 1, by omega⟩
      obtain rfl : z = (j : Int) := by have := hz.out; omega
      obtain ⟨q, o, rfl, hq⟩ := HR.out.addr (by omega)
      have hx := (HR.out.below hw.out hB).cell (i := j) (by omega)
      have hold := hb.out.cell (i := j) (by rw [hL.out]; omega)
      have hfr := hb.out.frozen j
      have hdx := HX.out.1.get (by omega) j
      obtain ⟨d, hd1⟩ : ∃ d, xs.getD j 0 = d := ⟨_, rfl⟩
      rw [hd1] at hx hdx
      have HD1 := Lib.hid hd1
      obtain ⟨s, hs⟩ : ∃ s, d + 4294967296 * r = s := ⟨_, rfl⟩
      have hor := or_join' d r hdx (by omega)
      rw [hs] at hor
      have hsb : s < 4294967296 * b := by omega
      have hs9 : s < 18446744073709551616 := by omega
      obtain ⟨t, ht⟩ : ∃ t, s / b = t := ⟨_, rfl⟩
      obtain ⟨r', hr'⟩ : ∃ r, s % b = r := ⟨_, rfl⟩
      have ht9 : t < 4294967296 := by rw [← ht]; exact Nat.div_lt_of_lt_mul (by rw [Nat.mul_comm]; exact hsb)
      have hr9 : r' < b := by rw [← hr']; exact Nat.mod_lt _ hb0
      have hti : (s : Int) / (b : Int) = (t : Int) := by rw [← ht]; exact (Int.natCast_ediv s b).symm
      have hri : (s : Int) % (b : Int) = (r' : Int) := by rw [← hr']; exact (Int.natCast_emod s b).symm
      have HNEW := divw_step (b := 4294967296) (w := b) (r := r) (s := s) (L := L) (X := xs) (by rw [hL.out]; omega) (by rw [HL.out]; omega) (by rw [HD1.out]; omega) hI.out
      rw [ht, hr'] at HNEW
      have HN := Lib.hid HNEW
      have HSET := Lib.hid (hb.out.set j t)
      have hj : (0 : Int) ≤ (j : Int) ∧ (j : Int) < (n : Int) := by omega
      obtain ⟨hj1, hj2⟩ := hj
      have HS := Lib.hid hs
      clear hd1 hs ht hr' HNEW hz
      go_wp2_with fail
      go_roundw
      case rel =>
        refine ⟨j, r', _, _, by omega, rfl, by show _ = _; omega, val_int hri, hr9, ?_, hD.out.set ht9 j, HN, HSET, hw.out.setCell HG.out _⟩
        show _ = _; rw [List.length_set]; exact hL.out
      case measure => simp [intOf] <;> omega
    · obtain rfl : k = 0 := by omega
      obtain rfl : z = -1 := by have := hz.out; omega
      have HQ : Hid (valB 4294967296 L = x / b ∧ r = x % b) := by
        have h1 := hI.out
        rw [List.drop_zero, List.drop_zero, HV.out] at h1
        refine ⟨?_, ?_⟩
        · rw [h1, Nat.mul_comm, Nat.mul_add_div hb0, Nat.div_eq_of_lt hrb, Nat.add_zero]
        · rw [h1, Nat.mul_comm, Nat.mul_add_mod, Nat.mod_eq_of_lt hrb]
      go_wp2_with fail
      refine (NTRIM_blk _ _ _ _ _ hb hL (by unfold maxLen; omega) hD (Lib.hid HQ.out.1)).mono ?_
      rintro e w9 ⟨⟨m, rfl, h1, h2⟩, rfl⟩
      have H1 := Lib.hid h1
      clear h1
      go_wp2_with fail
      refine (NATOF_any r (by omega) _).mono ?_
      rintro e w8 ⟨A8, n8, c8, rfl, h8, h9, h10⟩
      have H8 := Lib.hid h8
      have H10 := Lib.hid h10
      clear h8 h10
      go_wp2_with fail
      go_ret2
      exact ⟨_, _, _, _, _, rfl, H1.out.to H10.out (Nat.le_refl _) H10.out.size, by rw [← HQ.out.2]; exact H8.out, h2, h9, hw.out.trans (H10.out.mono hw.out.size), HG.out, Nat.lt_of_lt_of_le hb.out.lt H10.out.size⟩
theorem NDIVW_any (A : Option Addr) (n c x b : Nat) (hn : n ≤ 1000000000000) (hb0 : 0 < b) (hb1 : b < 4294967296) (w : World) (B : Nat) (hB : B ≤ w.heap.size) (hh : Hid (NumAt .u32 164 4294967296 w B A n c x)) :
    Calls Tryz.prog 147 #[.slice A n c, .int .u64 b] w (OutN2 w (x / b) (x % b) n 2) :=
  (NDIVW_own A n c x b hn hb0 hb1 w B hB hh).mono fun e w' ⟨g, m, A', n', c', h1, h2, h3, h4, h5, h6, _⟩ => ⟨_, _, _, _, _, _, h1, h2, h3, h4, h5, h6⟩
set_option maxRecDepth 100000 in
set_option maxHeartbeats 2000000 in
theorem NLEFT_any (A : Option Addr) (n c x s : Nat) (hn : n ≤ 1000000000) (hs : s < 32) (xs : List Nat) (HX : Hid (CanN 4294967296 xs)) (HV : Hid (valB 4294967296 xs = x)) (w : World) (B : Nat) (hB : B ≤ w.heap.size) (HR : Hid (RowAt .u32 164 w B A n xs)) :
    Calls Tryz.prog 149 #[.slice A n c, .int .u64 s] w fun e w' => ∃ g L, e = .returned (.slice (some ⟨g, 0, none⟩) (n + 1) (n + 1)) ∧ BlkN .u32 164 w' g L ∧ L.length = n + 1 ∧ DigN 4294967296 L ∧ valB 4294967296 L = x * 2 ^ s ∧ w.heap.size ≤ g ∧ Below w.heap.size w w' := by
  have HL := Lib.hid HR.out.1
  have hmk := mkNat1 n (by omega)
  go_enter Tryz.func149, Tryz.ntmps149
  go_wp2_with fail
  obtain ⟨g, hg⟩ : ∃ g, g = w.heap.size := ⟨_, rfl⟩
  rw [← hg]
  have HG := Lib.hid (show w.heap.size ≤ g by rw [hg]; exact Nat.le_refl _)
  obtain ⟨W, hW⟩ : ∃ W, W = w.alloc (.cells (cellsN .u32 (List.replicate (n + 1) 0)) 164) := ⟨_, rfl⟩
  have HB0 : Hid (BlkN .u32 164 W g (List.replicate (n + 1) 0)) := by rw [hW, hg]; exact BlkN.mk _ _ _ _
  have HW0 : Hid (Below w.heap.size w W) := by show Below _ _ _; rw [hW]; exact (Below.refl _ _).alloc (Nat.le_refl _) _
  rw [← hW]
  clear hW hg hmk
  go_loopw [15] (fun i wr => ∃ (k : Nat) (L : List Nat), k ≤ n ∧ i = .int .i64 k ∧ Hid (L.length = n + 1) ∧ Hid (DigN 4294967296 L) ∧ Hid (valB 4294967296 L = valB 4294967296 (xs.take k) * 2 ^ s) ∧ Hid (∀ p, k < p → L.getD p 0 = 0) ∧ Hid (L.getD k 0 < 2 ^ s) ∧ Hid (BlkN .u32 164 wr g L) ∧ Hid (Below w.heap.size w wr)) (fun i _ => n - (intOf i).toNat)
  case atStart => exact ⟨0, _, Nat.zero_le _, rfl, by show _ = _; simp, DigN.zeros (by omega) _, by show _ = _; rw [valB_zeros]; simp [valB], fun p _ => getD_zeros _ p, by show _ < _; rw [getD_zeros]; exact Nat.two_pow_pos s, HB0, HW0⟩
  case round =>
    obtain ⟨k, L, hk, rfl, hL, hD, hI, hZ, hlow, hb, hw⟩ := hrel
    by_cases hlt : k < n
    · obtain ⟨q, o, rfl, hq⟩ := HR.out.addr (by omega)
      have hx := (HR.out.below hw.out hB).cell hlt
      have hold := hb.out.cell (i := k) (by rw [hL.out]; omega)
      have hfr := hb.out.frozen k
      have hdx := HX.out.1.get (by omega) k
      obtain ⟨d, hd1⟩ : ∃ d, xs.getD k 0 = d := ⟨_, rfl⟩
      rw [hd1] at hx hdx
      obtain ⟨v, hv1⟩ : ∃ d, L.getD k 0 = d := ⟨_, rfl⟩
      rw [hv1] at hold
      have HD1 := Lib.hid hd1
      have HV1 := Lib.hid hv1
      have hold2 := hb.out.cell (i := k + 1) (by rw [hL.out]; omega)
      have hfr2 := hb.out.frozen (k + 1)
      rw [hZ.out (k + 1) (by omega)] at hold2
      obtain ⟨y, hy⟩ : ∃ y, d * 2 ^ s = y := ⟨_, rfl⟩
      have hps : 2 ^ s ≤ 2147483648 := Nat.pow_le_pow_right (by omega) (show s ≤ 31 by omega)
      have hpp := Nat.two_pow_pos s
      have hy9 : y < 4294967296 * 2 ^ s := by rw [← hy]; exact Nat.mul_lt_mul_of_pos_right hdx hpp
      have hv9 : v < 2 ^ s := by rw [← hv1]; exact hlow.out
      have hm9 : y % 4294967296 % 2 ^ s = 0 := by
        rw [Nat.mod_mod_of_dvd _ (show 2 ^ s ∣ 4294967296 from Nat.pow_dvd_pow 2 (show s ≤ 32 by omega)), ← hy]
        exact Nat.mul_mod_left _ _
      have hsh : IntKind.u64.wrap ((d : Int) * 2 ^ s) = (y : Int) := by
        have e : (d : Int) * 2 ^ s = (y : Int) := by rw [← hy, Int.natCast_mul, Int.natCast_pow]; rfl
        rw [e]; exact IntWalk.u64_in _ (by omega)
      obtain ⟨t, ht⟩ : ∃ t, v + y % 4294967296 = t := ⟨_, rfl⟩
      have hor : bits .or .u32 (v : Int) ((y : Int) % 4294967296) = (t : Int) := by
        have h1 := u32_or_nat v (y % 4294967296) (by omega) (by omega)
        rw [Nat.or_comm, nat_join s _ _ hm9 hv9, Nat.add_comm, ht] at h1
        exact h1
      have ht9 : t < 4294967296 := by
        have h1 := Nat.mod_lt y (show 0 < 4294967296 by omega)
        obtain ⟨m, hm⟩ : ∃ m, 4294967296 = 2 ^ s * m := (Nat.pow_dvd_pow 2 (show s ≤ 32 by omega) : 2 ^ s ∣ 2 ^ 32)
        obtain ⟨a, ha⟩ : ∃ a, y % 4294967296 = 2 ^ s * a := Nat.dvd_of_mod_eq_zero hm9
        rw [ha] at ht h1
        rw [hm] at h1 ⊢
        have h2 : a < m := Nat.lt_of_mul_lt_mul_left h1
        have h3 := Nat.mul_le_mul_left (2 ^ s) (show a + 1 ≤ m from h2)
        rw [Nat.mul_add] at h3
        omega
      obtain ⟨h, hh⟩ : ∃ h, y / 4294967296 = h := ⟨_, rfl⟩
      have hh9 : h < 2 ^ s := by rw [← hh]; exact Nat.div_lt_of_lt_mul hy9
      have hhi : (y : Int) / 4294967296 = (h : Int) := by omega
      have hyt : y < 9223372036854775808 := by omega
      have HSET := Lib.hid ((hb.out.set k t).set (k + 1) h)
      have HNEW := Lib.hid (left_step (b := 4294967296) (y := y) (X := xs) (by rw [hL.out]; omega) hv1 (hZ.out (k + 1) (by omega)) ht.symm hh.symm hd1 hy.symm hI.out)
      have HH := Lib.hid (And.intro hh9 (show h < 4294967296 by omega))
      have HT := Lib.hid ht9
      have hk0 : (0 : Int) ≤ (k : Int) ∧ (k : Int) < (n : Int) := by omega
      obtain ⟨hk0, hk1⟩ := hk0
      clear hd1 hv1 hy ht hh hm9 hh9 hv9 hy9 hps hpp
      go_wp2_with fail
      go_roundw
      case rel =>
        refine ⟨k + 1, _, by omega, by go_num, ?_, (hD.out.set HT.out k).set HH.out.2 (k + 1), HNEW, ?_, ?_, HSET, (hw.out.setCell HG.out _).setCell HG.out _⟩
        · show _ = _; rw [List.length_set, List.length_set]; exact hL.out
        · intro p hp
          rw [getDn_set_ne (by omega), getDn_set_ne (by omega)]
          exact hZ.out p (by omega)
        · show _ < _
          rw [getDn_set_self (by rw [List.length_set, hL.out]; omega)]
          exact HH.out.1
      case measure => simp [intOf] <;> omega
    · obtain rfl : k = n := by omega
      go_wp2_with fail
      go_ret
      refine ⟨_, _, rfl, hb.out, hL.out, hD.out, ?_, HG.out, hw.out⟩
      rw [hI.out, List.take_of_length_le (by rw [HL.out]; exact Nat.le_refl _), HV.out]
end Go.Proofs.YtkmcohnhanphdaaGreatDoor
/- num.Nat: step, a digit of a quotient. -/
namespace Go.Proofs.YtkmcohnhanphdaaGreatDoor
open Go.RowKit Go.Dw
theorem and_low32 (a : Nat) (ha : a < 18446744073709551616) : bits .and .u64 (a : Int) 4294967295 = ((a % 4294967296 : Nat) : Int) := by
  have h := bits_and_u64_nat a 4294967295 ha (by omega)
  have e : a &&& 4294967295 = a % 4294967296 := Nat.and_two_pow_sub_one_eq_mod a 32
  rw [e] at h
  exact h
theorem wpList_copy_num {w : World} {ops : Array Oper} {rest : List Oper} {o : Oper} {a : Act} {Q : Exit → Act → World → Prop} (hgd : o.guard = none) (d s : Operand)
    (ho : o.op = .call { callee := .builtin .copy, args := #[d, s], argTypes := #[80, 80] })
    (g off n c g' c' : Nat) (U M : List Nat) (hd : a.eval d = .slice (some ⟨g, off, none⟩) n c) (hs : a.eval s = .slice (some ⟨g', 0, none⟩) n c')
    (hU : Hid (BlkN .u32 164 w g U)) (hM : Hid (BlkN .u32 164 w g' M)) (hn : Hid (M.length = n)) (hfit : Hid (off + n ≤ U.length))
    (h : ∀ w', Hid (BlkN .u32 164 w' g (putN U off M)) → Hid (w.grownBy w' (some g)) → wpList Tryz.prog ops Q rest (a.put o.dst (goInt n)) w') : wpList Tryz.prog ops Q (o :: rest) a w := by
  have hl := hn.out
  have hf := hfit.out
  have e : (M.map fun d => Value.int .u32 ((d : Nat) : Int)).length = n := by simpa using hl
  refine wpList_copy_own hgd d s 80 80 ho 164 Tryz.underlying80 (by kernel_rfl) g off n c ⟨g', 0, none⟩ n c' hd hs _ 164 hU.out (M.map fun d => Value.int .u32 ((d : Nat) : Int)) (by rw [e]; simp) ?_ ?_ ?_ ?_
  · intro j v hv
    have hj : j < M.length := by have := (List.getElem?_eq_some_iff.1 hv).1; simpa using this
    have h1 := hM.out.cell hj
    have : (⟨g', 0, none⟩ : Addr).add j = ⟨g', j, none⟩ := by unfold Addr.add; split <;> simp_all
    rw [this, h1, ← hv]
    simp [List.getD, hj]
  · rw [e]; simpa [cellsN] using hf
  · intro v hv
    obtain ⟨x, _, rfl⟩ := List.mem_map.1 hv
    rfl
  · rw [e]
    refine h _ ?_ ?_
    · have h1 := setRow_heap w g _ ((cellsN IntKind.u32 U).toList.take off ++ ((M.map fun d => Value.int .u32 ((d : Nat) : Int)) ++ (cellsN IntKind.u32 U).toList.drop (off + n))).toArray 164 _ hU.out
      show _ = _
      rw [h1]
      congr 2
      simp [cellsN, putN, hl]
    · exact ⟨rfl, rfl, rfl, by simp [World.setRow], fun k _ hne => setRow_other w g k _ (fun e9 => hne (by rw [e9]))⟩
theorem grownBy_of_below {a w : World} {row : Option Nat} (h : Below a.heap.size a w) : a.grownBy w row := ⟨h.os, h.tape, h.output, h.size, fun i hi _ => h.block i hi⟩
set_option maxRecDepth 100000 in
set_option maxHeartbeats 4000000 in
theorem NSTEP_any (gu j n cu gv cv : Nat) (U V : List Nat) (x y : Nat) (h0n : 0 < n) (hcu : n + 1 ≤ cu ∧ cu ≤ maxLen) (hcv : n ≤ cv ∧ cv ≤ maxLen) (hn9 : n ≤ 1000000000) (w : World) (hU : Hid (BlkN .u32 164 w gu U)) (hV : Hid (BlkN .u32 164 w gv V)) (hne : gu ≠ gv)
    (dU : Hid (DigN 4294967296 U)) (dV : Hid (DigN 4294967296 V)) (hj : Hid (j + n + 1 ≤ U.length)) (hv : Hid (n ≤ V.length)) (hx : Hid (valB 4294967296 ((U.drop j).take (n + 1)) = x)) (hy : Hid (valB 4294967296 (V.take n) = y)) (hlt : Hid (x < y * 4294967296)) :
    Calls Tryz.prog 150 #[.slice (some ⟨gu, j, none⟩) (n + 1) cu, .slice (some ⟨gv, 0, none⟩) n cv] w fun e w' => e = .returned (.int .u32 (x / y : Nat)) ∧ ∃ M, M.length = n + 1 ∧ DigN 4294967296 M ∧ valB 4294967296 M = x % y ∧ BlkN .u32 164 w' gu (putN U j M) ∧ w.grownBy w' (some gu) := by
  obtain ⟨us, hus⟩ : ∃ us, (U.drop j).take (n + 1) = us := ⟨_, rfl⟩
  obtain ⟨vs, hvs⟩ : ∃ vs, V.take n = vs := ⟨_, rfl⟩
  have hul : us.length = n + 1 := by rw [← hus]; have := hj.out; simp; omega
  have hvl : vs.length = n := by rw [← hvs]; have := hv.out; simp; omega
  have HUL := Lib.hid hul
  have HVL := Lib.hid hvl
  have DU : Hid (DigN 4294967296 us) := by rw [← hus]; exact (dU.out.drop j).take _
  have DV : Hid (DigN 4294967296 vs) := by rw [← hvs]; exact dV.out.take _
  have hx1 : valB 4294967296 us = x := by rw [← hus]; exact hx.out
  have hy1 : valB 4294967296 vs = y := by rw [← hvs]; exact hy.out
  have HX := Lib.hid hx1
  have HY := Lib.hid hy1
  have hy0 : 0 < y := Nat.pos_of_ne_zero fun e => by have := hlt.out; rw [e] at this; omega
  have HY0 := Lib.hid hy0
  have HRU : Hid (RowAt .u32 164 w (max gu gv + 1) (some ⟨gu, j, none⟩) (n + 1) us) := by rw [← hus]; exact hU.out.piece (by omega) (by have := hj.out; omega)
  have HRV : Hid (RowAt .u32 164 w (max gu gv + 1) (some ⟨gv, 0, none⟩) n vs) := by rw [← hvs]; exact (hV.out.row (by omega)).take hv.out
  have hgu := hU.out.lt
  have hgv := hV.out.lt
  obtain ⟨hcu1, hcu2⟩ := hcu
  obtain ⟨hcv1, hcv2⟩ := hcv
  unfold maxLen at hcu2 hcv2
  obtain ⟨m, hm⟩ : ∃ m, n = m + 1 := ⟨n - 1, by omega⟩
  have cu1 := HRU.out.cell (i := n) (by omega)
  have cu0 := HRU.out.cell (i := m) (by omega)
  have cv0 := HRV.out.cell (i := m) (by omega)
  rw [Nat.zero_add] at cv0
  have du1 := DU.out.get (by omega) n
  have du0 := DU.out.get (by omega) m
  have dv0 := DV.out.get (by omega) m
  have HEST := Lib.hid (quot_est (b := 4294967296) (n := m) (us := us) (vs := vs) (by omega) (by rw [hul, hm]) (by rw [hvl, hm]) DU.out)
  have HTOP := Lib.hid (quot_top (b := 4294967296) hlt.out hy0)
  rw [hx1, hy1, ← hm] at HEST
  obtain ⟨a1, ha1⟩ : ∃ a, us.getD n 0 = a := ⟨_, rfl⟩
  obtain ⟨a0, ha0⟩ : ∃ a, us.getD m 0 = a := ⟨_, rfl⟩
  obtain ⟨b0, hb0⟩ : ∃ a, vs.getD m 0 = a := ⟨_, rfl⟩
  rw [ha1] at cu1 du1 HEST
  rw [ha0] at cu0 du0 HEST
  rw [hb0] at cv0 dv0 HEST
  obtain ⟨t, ht⟩ : ∃ t, a0 + 4294967296 * a1 = t := ⟨_, rfl⟩
  rw [ht] at HEST
  have hor := or_join' a0 a1 du0 du1
  rw [ht] at hor
  have ht9 : t < 18446744073709551616 := by omega
  have HT := Lib.hid ht
  have i1 : (n : Int) < (n : Int) + 1 := by omega
  have i2 : (m : Int) < (n : Int) + 1 := by omega
  have i3 : (m : Int) < (n : Int) := by omega
  have hnm : (n : Int) - 1 = (m : Int) := by omega
  have HM := Lib.hid hm
  clear hus hvs hul hvl hx1 hy1 ha1 ha0 hb0 ht hy0 hm
  have hmk := mkNat1 n (by omega)
  go_enter Tryz.func150, Tryz.ntmps150
  go_wp2_with fail
  go_quiet (fail)
  go_wp2_with fail
  go_quiet (fail)
  go_upto_if 37 with (fail)
  go_cut [7] (fun q wx => ∃ q0 : Nat, q = .int .u64 q0 ∧ q0 < 4294967296 ∧ Hid (x / y ≤ q0) ∧ Hid (∃ k, wx = w.drewN k))
  case first =>
    by_cases hlt2 : a1 < b0
    · have hdd : decide ((a1 : Int) < (b0 : Int)) = true := by simp; omega
      obtain ⟨q0, hq0⟩ : ∃ q, t / b0 = q := ⟨_, rfl⟩
      have hqi : (t : Int) / (b0 : Int) = (q0 : Int) := by rw [← hq0]; exact (Int.natCast_ediv t b0).symm
      have hb0 : 0 < b0 := by omega
      have HE2 := Lib.hid (HEST.out hb0)
      have hq9 : q0 < 4294967296 := by
        rw [← hq0]
        refine Nat.div_lt_of_lt_mul ?_
        have := HT.out
        have h2 := Nat.mul_le_mul_left 4294967296 (show a1 + 1 ≤ b0 from hlt2)
        rw [Nat.mul_comm b0]
        omega
      have HQ := Lib.hid hq0
      clear hq0
      go_wp2_with fail
      go_meet
      exact ⟨q0, rfl, hq9, by rw [← HQ.out]; exact HE2, ⟨_, rfl⟩⟩
    · have hdd : decide ((a1 : Int) < (b0 : Int)) = false := by simp; omega
      go_wp2_with fail
      go_meet
      exact ⟨4294967295, rfl, by omega, HTOP, drewN_more ⟨_, rfl⟩ _⟩
  case rest =>
    obtain ⟨q0, rfl, hq0, hle, hw0⟩ := hcut
    have HW0 : Hid (Below w.heap.size w wc) := by obtain ⟨k, hk⟩ := hw0.out; show Below _ _ _; rw [hk]; exact belowN (Below.refl _ _) k
    clear hw0 HEST HTOP hor HT cu1 cu0 cv0 i2 i3 hnm HM hx hy hlt
    go_wp2_with fail
    go_loopw [7] (fun qv wr => ∃ q : Nat, qv = .int .u64 q ∧ q < 4294967296 ∧ Hid (x / y ≤ q) ∧ Hid (Below w.heap.size w wr)) (fun qv _ => (intOf qv).toNat)
    case atStart => exact ⟨q0, rfl, hq0, hle, HW0⟩
    case round =>
      clear hq0 hle HW0
      obtain ⟨q, rfl, hq0, hle, HW0⟩ := hrel
      obtain ⟨wo, rfl⟩ : ∃ wo : World, wo = wr := ⟨_, rfl⟩
      go_wp2_with fail
      obtain ⟨g, hg⟩ : ∃ g, g = wo.heap.size := ⟨_, rfl⟩
      rw [← hg]
      have HG := Lib.hid (show w.heap.size ≤ g by rw [hg]; exact HW0.out.size)
      obtain ⟨W, hW⟩ : ∃ W, W = wo.alloc (.cells (cellsN .u32 (List.replicate (n + 1) 0)) 164) := ⟨_, rfl⟩
      have HB0 : Hid (BlkN .u32 164 W g (List.replicate (n + 1) 0)) := by rw [hW, hg]; exact BlkN.mk _ _ _ _
      have HW1 : Hid (Below w.heap.size w W) := by show Below _ _ _; rw [hW]; exact HW0.out.alloc HW0.out.size _
      rw [← hW]
      clear hW hg hmk HW0
      go_loopw [8, 9, 51] (fun bv cv iv wi => ∃ (i bo ca : Nat) (M : List Nat), i ≤ n + 1 ∧ iv = .int .i64 i ∧ bv = .int .u64 bo ∧ bo ≤ 1 ∧ cv = .int .u64 ca ∧ ca < 4294967296 ∧ Hid (M.length = n + 1) ∧ Hid (DigN 4294967296 M) ∧ Hid (valB 4294967296 (M.take i) + q * valB 4294967296 (vs.take i) = valB 4294967296 (us.take i) + 4294967296 ^ i * (ca + bo)) ∧ Hid (4294967296 ^ i * ca ≤ q * valB 4294967296 (vs.take i)) ∧ Hid (BlkN .u32 164 wi g M) ∧ Hid (Below w.heap.size w wi)) (fun _ _ iv _ => n + 1 - (intOf iv).toNat)
      case atStart => exact ⟨0, 0, 0, _, Nat.zero_le _, rfl, rfl, by omega, rfl, by omega, by show _ = _; simp, DigN.zeros (by omega) _, by show _ = _; simp [valB], by show _ ≤ _; simp, HB0, HW1⟩
      case round =>
        clear HB0 HW1
        obtain ⟨i, bo, ca, M, hi, rfl, rfl, hbo, rfl, hca, hL, hD, hI, hI2, hb, hw⟩ := hrel
        by_cases hit : i < n + 1
        · have hcu := (HRU.out.below hw.out (by omega)).cell hit
          have hold := hb.out.cell (i := i) (by rw [hL.out]; omega)
          have hfr := hb.out.frozen i
          have hdu := DU.out.get (by omega) i
          have hdv := DV.out.get (by omega) i
          obtain ⟨a, ha1⟩ : ∃ d, us.getD i 0 = d := ⟨_, rfl⟩
          obtain ⟨v, hv1⟩ : ∃ d, vs.getD i 0 = d := ⟨_, rfl⟩
          rw [ha1] at hcu hdu
          rw [hv1] at hdv
          have HA := Lib.hid ha1
          have HVV := Lib.hid hv1
          have hp9 := Nat.mul_le_mul (show q ≤ 4294967295 by omega) (show v ≤ 4294967295 by omega)
          obtain ⟨p, hp⟩ : ∃ p, q * v = p := ⟨_, rfl⟩
          have HP := Lib.hid hp
          rw [hp] at hp9
          have hpi : (q : Int) * (v : Int) = (p : Int) := by rw [← hp]; exact (Int.natCast_mul q v).symm
          obtain ⟨c2, hc2⟩ : ∃ c, ca + p = c := ⟨_, rfl⟩
          have hci : (ca : Int) + (p : Int) = (c2 : Int) := by omega
          have hc9 : c2 < 18446744073709551616 := by omega
          have hca9 : c2 / 4294967296 < 4294967296 := by omega
          obtain ⟨lo, hlo⟩ : ∃ l, c2 % 4294967296 = l := ⟨_, rfl⟩
          have hand := and_low32 c2 hc9
          rw [hlo] at hand
          have hlo9 : lo < 4294967296 := by omega
          obtain ⟨t1, ht1⟩ : ∃ t : Nat, (t : Int) = ((a : Int) - (lo : Int)) % 18446744073709551616 := ⟨(((a : Int) - (lo : Int)) % 18446744073709551616).toNat, by omega⟩
          obtain ⟨t2, ht2⟩ : ∃ t : Nat, (t : Int) = ((t1 : Int) - (bo : Int)) % 18446744073709551616 := ⟨(((t1 : Int) - (bo : Int)) % 18446744073709551616).toNat, by omega⟩
          have hw1 : IntKind.u64.wrap ((a : Int) - (lo : Int)) = (t1 : Int) := by rw [IntKind.wrap_u64]; omega
          have hw2 : IntKind.u64.wrap ((t1 : Int) - (bo : Int)) = (t2 : Int) := by rw [IntKind.wrap_u64]; omega
          have ht9 : t2 < 18446744073709551616 := by omega
          have ht19 : t1 < 18446744073709551616 := by omega
          have hbo9 : t2 / 9223372036854775808 ≤ 1 := by omega
          have hdg : t2 % 4294967296 + lo + bo = a + 4294967296 * (t2 / 9223372036854775808) := by omega
          have HNEW := Lib.hid (dstep_digit (b := 4294967296) (i := i) (q := q) (M := M) (us := us) (vs := vs) (c2 := c2) (lo := lo) (ca' := c2 / 4294967296) (bo := bo) (by rw [hL.out]; omega) (by rw [HVV.out, HP.out, ← hc2]) (by omega) (by rw [HA.out]; exact hdg) hI.out hI2.out)
          have hset := hb.out.set i (t2 % 4294967296)
          rw [show ((t2 % 4294967296 : Nat) : Int) = (t2 : Int) % 4294967296 by omega] at hset
          have HSET := Lib.hid hset
          have hi0 : (0 : Int) ≤ (i : Int) ∧ (i : Int) < (n : Int) + 1 := by omega
          obtain ⟨hi0, hi1⟩ := hi0
          have HC := Lib.hid hc2
          have HC9 := Lib.hid (And.intro hca9 hbo9)
          clear ha1 hv1 hp hc2 hlo ht1 ht2 hdg hset hca9 hbo9 hI hI2
          by_cases hin : i < n
          · have hcv := (HRV.out.below hw.out (by omega)).cell hin
            rw [HVV.out, Nat.zero_add] at hcv
            go_wp2_with fail
            go_roundw
            case rel =>
              refine ⟨i + 1, t2 / 9223372036854775808, c2 / 4294967296, _, by omega, by go_num, val_int (by omega), HC9.out.2, val_int (by omega), HC9.out.1, ?_, hD.out.set (Nat.mod_lt _ (by omega)) i, Lib.hid HNEW.out.1, Lib.hid HNEW.out.2, HSET, hw.out.setCell HG.out _⟩
              show _ = _; rw [List.length_set]; exact hL.out
            case measure => simp [intOf] <;> omega
          · obtain rfl : v = 0 := by rw [← HVV.out]; exact getD_over (by rw [HVL.out]; omega)
            obtain rfl : p = 0 := by rw [← HP.out]; simp
            obtain rfl : ca = c2 := by have := HC.out; omega
            clear hci hpi
            go_wp2_with fail
            go_roundw
            case rel =>
              refine ⟨i + 1, t2 / 9223372036854775808, ca / 4294967296, _, by omega, by go_num, val_int (by omega), HC9.out.2, val_int (by omega), HC9.out.1, ?_, hD.out.set (Nat.mod_lt _ (by omega)) i, Lib.hid HNEW.out.1, Lib.hid HNEW.out.2, HSET, hw.out.setCell HG.out _⟩
              show _ = _; rw [List.length_set]; exact hL.out
            case measure => simp [intOf] <;> omega
        · obtain rfl : i = n + 1 := by omega
          have hV9 := valB_lt DV.out
          rw [HVL.out, HY.out] at hV9
          have HE : Hid (valB 4294967296 M + q * y = x + 4294967296 ^ (n + 1) * bo) := by
            have h1 := hI.out
            have h2 := hI2.out
            rw [List.take_of_length_le (by rw [hL.out]; exact Nat.le_refl _), List.take_of_length_le (l := us) (by rw [HUL.out]; exact Nat.le_refl _), List.take_of_length_le (l := vs) (by rw [HVL.out]; omega), HX.out, HY.out] at h1
            rw [List.take_of_length_le (l := vs) (by rw [HVL.out]; omega), HY.out] at h2
            exact dstep_end hq0 hV9 h1 h2
          clear hI hI2 hV9
          by_cases hb0 : bo = 0
          · subst hb0
            have HYES := Lib.hid (dstep_yes HY0.out HE.out hle.out)
            have hUw : Hid (BlkN .u32 164 wr gu U) := hU.out.below hw.out hgu
            have hjn : Hid (j + (n + 1) ≤ U.length) := hj.out
            go_wp2_with (with_reducible refine wpList_copy_num rfl (.tmp 88) (.tmp 89) rfl gu j (n + 1) _ g _ U M rfl rfl hUw hb hL hjn ?_; intro w2 hU2 hG2)
            go_ret
            refine ⟨?_, M, hL.out, hD.out, HYES.out.2, hU2.out, (grownBy_of_below hw.out).trans hG2.out⟩
            rw [← HYES.out.1]
            rfl
          · obtain rfl : bo = 1 := by omega
            have HNO := dstep_no (b := 4294967296) (n := n) (M := M) (by rw [← hL.out]; exact valB_lt hD.out) HY0.out HE.out hle.out
            obtain ⟨hq1, hq2⟩ := HNO
            obtain ⟨q', rfl⟩ : ∃ q', q = q' + 1 := ⟨q - 1, by omega⟩
            rw [Nat.add_sub_cancel] at hq2
            have HQ2 := Lib.hid hq2
            clear hq2 HE
            go_wp2_with fail
            go_roundw
            case rel => exact ⟨q', by go_num, by omega, HQ2, hw⟩
            case measure => simp [intOf] <;> omega
end Go.Proofs.YtkmcohnhanphdaaGreatDoor
