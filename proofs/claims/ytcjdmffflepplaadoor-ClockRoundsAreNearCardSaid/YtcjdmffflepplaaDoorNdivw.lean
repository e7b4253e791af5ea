/- num.Nat: divWord, left. -/
import Derived.Test.YtcjdmffflepplaaDoorNmul
set_option linter.unusedSimpArgs false
set_option linter.unusedVariables false
namespace Go.Proofs.YtcjdmffflepplaaDoor
open Go.RowKit Go.Dw

/-- two numbers handed back -/
def OutN2 (w : World) (x y k l : Nat) (e : Ending) (w' : World) : Prop := ∃ A n c A' n' c', e = .returned (.tuple #[.slice A n c, .slice A' n' c']) ∧ NumAt .u32 73 4294967296 w' w'.heap.size A n c x ∧ NumAt .u32 73 4294967296 w' w'.heap.size A' n' c' y ∧ n ≤ k ∧ n' ≤ l ∧ Below w.heap.size w w'
set_option maxRecDepth 100000 in
set_option maxHeartbeats 2000000 in
theorem NDIVW_own (A : Option Addr) (n c x b : Nat) (hn : n ≤ 1000000000000) (hb0 : 0 < b) (hb1 : b < 4294967296) (w : World) (B : Nat) (hB : B ≤ w.heap.size) (hh : Hid (NumAt .u32 73 4294967296 w B A n c x)) :
    Calls Tryd.prog 69 #[.slice A n c, .int .u64 b] w fun e w' => ∃ g m A' n' c', e = .returned (.tuple #[.slice (some ⟨g, 0, none⟩) m n, .slice A' n' c']) ∧ NumAt .u32 73 4294967296 w' w'.heap.size (some ⟨g, 0, none⟩) m n (x / b) ∧ NumAt .u32 73 4294967296 w' w'.heap.size A' n' c' (x % b) ∧ m ≤ n ∧ n' ≤ 2 ∧ Below w.heap.size w w' ∧ w.heap.size ≤ g ∧ g < w'.heap.size := by
  obtain ⟨hc1, hc2, xs, hx, hv, hr⟩ := hh.out
  have hl := hr.1
  unfold maxLen at hc2
  have HX := Lib.hid hx
  have HV := Lib.hid hv
  have HR := Lib.hid hr
  have HL := Lib.hid hl
  clear hx hv hr hl hh
  have hmk := mkNat n (by omega)
  go_enter Tryd.func69, Tryd.ntmps69
  go_wp2_with fail
  obtain ⟨g, hg⟩ : ∃ g, g = w.heap.size := ⟨_, rfl⟩
  rw [← hg]
  have HG := Lib.hid (show w.heap.size ≤ g by rw [hg]; exact Nat.le_refl _)
  obtain ⟨W, hW⟩ : ∃ W, W = w.alloc (.cells (cellsN .u32 (List.replicate n 0)) 73) := ⟨_, rfl⟩
  have HB0 : Hid (BlkN .u32 73 W g (List.replicate n 0)) := by rw [hW, hg]; exact BlkN.mk _ _ _ _
  have HW0 : Hid (Below w.heap.size w W) := by show Below _ _ _; rw [hW]; exact (Below.refl _ _).alloc (Nat.le_refl _) _
  rw [← hW]
  clear hW hg hmk
  go_loopw [7, 8] (fun rv i wr => ∃ (k r : Nat) (z : Int) (L : List Nat), k ≤ n ∧ i = .int .i64 z ∧ Hid (z = (k : Int) - 1) ∧ rv = .int .u64 r ∧ r < b ∧ Hid (L.length = n) ∧ Hid (DigN 4294967296 L) ∧ Hid (valB 4294967296 (xs.drop k) = valB 4294967296 (L.drop k) * b + r) ∧ Hid (BlkN .u32 73 wr g L) ∧ Hid (Below w.heap.size w wr)) (fun _ i _ => (intOf i + 1).toNat)
  case atStart =>
    refine ⟨n, 0, _, _, Nat.le_refl _, rfl, rfl, rfl, hb0, by show _ = _; simp, DigN.zeros (by omega) _, ?_, HB0, HW0⟩
    show _ = _
    rw [List.drop_of_length_le (by rw [HL.out]; exact Nat.le_refl _), List.drop_of_length_le (by simp)]; simp [valB]
  case round =>
    obtain ⟨k, r, z, L, hk, rfl, hz, rfl, hrb, hL, hD, hI, hb, hw⟩ := hrel
    by_cases h0 : 0 < k
    · obtain ⟨j, rfl⟩ : ∃ j, k = j + 1 := ⟨k - 1, by omega⟩
      obtain rfl : z = (j : Int) := by have := hz.out; omega
      obtain ⟨q, o, rfl, hq⟩ := HR.out.addr (by omega)
      have hx := (HR.out.below hw.out hB).cell (i := j) (by omega)
      have hold := hb.out.cell (i := j) (by rw [hL.out]; omega)
      have hfr := hb.out.frozen j
      have hdx := HX.out.1.get (by omega) j
      obtain ⟨d, hd1⟩ : ∃ d, xs.getD j 0 = d := ⟨_, rfl⟩
      rw [hd1] at hx hdx
      have HD1 := Lib.hid hd1
      obtain ⟨s, hs⟩ : ∃ s, d + 4294967296 * r = s := ⟨_, rfl⟩
      have hor := or_join' d r hdx (by omega)
      rw [hs] at hor
      have hsb : s < 4294967296 * b := by omega
      have hs9 : s < 18446744073709551616 := by omega
      obtain ⟨t, ht⟩ : ∃ t, s / b = t := ⟨_, rfl⟩
      obtain ⟨r', hr'⟩ : ∃ r, s % b = r := ⟨_, rfl⟩
      have ht9 : t < 4294967296 := by rw [← ht]; exact Nat.div_lt_of_lt_mul (by rw [Nat.mul_comm]; exact hsb)
      have hr9 : r' < b := by rw [← hr']; exact Nat.mod_lt _ hb0
      have hti : (s : Int) / (b : Int) = (t : Int) := by rw [← ht]; exact (Int.natCast_ediv s b).symm
      have hri : (s : Int) % (b : Int) = (r' : Int) := by rw [← hr']; exact (Int.natCast_emod s b).symm
      have HNEW := divw_step (b := 4294967296) (w := b) (r := r) (s := s) (L := L) (X := xs) (by rw [hL.out]; omega) (by rw [HL.out]; omega) (by rw [HD1.out]; omega) hI.out
      rw [ht, hr'] at HNEW
      have HN := Lib.hid HNEW
      have HSET := Lib.hid (hb.out.set j t)
      have hj : (0 : Int) ≤ (j : Int) ∧ (j : Int) < (n : Int) := by omega
      obtain ⟨hj1, hj2⟩ := hj
      have HS := Lib.hid hs
      clear hd1 hs ht hr' HNEW hz
      go_wp2_with fail
      go_roundw
      case rel =>
        refine ⟨j, r', _, _, by omega, rfl, by show _ = _; omega, val_int hri, hr9, ?_, hD.out.set ht9 j, HN, HSET, hw.out.setCell HG.out _⟩
        show _ = _; rw [List.length_set]; exact hL.out
      case measure => simp [intOf] <;> omega
    · obtain rfl : k = 0 := by omega
      obtain rfl : z = -1 := by have := hz.out; omega
      have HQ : Hid (valB 4294967296 L = x / b ∧ r = x % b) := by
        have h1 := hI.out
        rw [List.drop_zero, List.drop_zero, HV.out] at h1
        refine ⟨?_, ?_⟩
        · rw [h1, Nat.mul_comm, Nat.mul_add_div hb0, Nat.div_eq_of_lt hrb, Nat.add_zero]
        · rw [h1, Nat.mul_comm, Nat.mul_add_mod, Nat.mod_eq_of_lt hrb]
      go_wp2_with fail
      refine (NTRIM_blk _ _ _ _ _ hb hL (by unfold maxLen; omega) hD (Lib.hid HQ.out.1)).mono ?_
      rintro e w9 ⟨⟨m, rfl, h1, h2⟩, rfl⟩
      have H1 := Lib.hid h1
      clear h1
      go_wp2_with fail
      refine (NATOF_any r (by omega) _).mono ?_
      rintro e w8 ⟨A8, n8, c8, rfl, h8, h9, h10⟩
      have H8 := Lib.hid h8
      have H10 := Lib.hid h10
      clear h8 h10
      go_wp2_with fail
      go_ret2
      exact ⟨_, _, _, _, _, rfl, H1.out.to H10.out (Nat.le_refl _) H10.out.size, by rw [← HQ.out.2]; exact H8.out, h2, h9, hw.out.trans (H10.out.mono hw.out.size), HG.out, Nat.lt_of_lt_of_le hb.out.lt H10.out.size⟩
theorem NDIVW_any (A : Option Addr) (n c x b : Nat) (hn : n ≤ 1000000000000) (hb0 : 0 < b) (hb1 : b < 4294967296) (w : World) (B : Nat) (hB : B ≤ w.heap.size) (hh : Hid (NumAt .u32 73 4294967296 w B A n c x)) :
    Calls Tryd.prog 69 #[.slice A n c, .int .u64 b] w (OutN2 w (x / b) (x % b) n 2) :=
  (NDIVW_own A n c x b hn hb0 hb1 w B hB hh).mono fun e w' ⟨g, m, A', n', c', h1, h2, h3, h4, h5, h6, _⟩ => ⟨_, _, _, _, _, _, h1, h2, h3, h4, h5, h6⟩
set_option maxRecDepth 100000 in
set_option maxHeartbeats 2000000 in
theorem NLEFT_any (A : Option Addr) (n c x s : Nat) (hn : n ≤ 1000000000) (hs : s < 32) (xs : List Nat) (HX : Hid (CanN 4294967296 xs)) (HV : Hid (valB 4294967296 xs = x)) (w : World) (B : Nat) (hB : B ≤ w.heap.size) (HR : Hid (RowAt .u32 73 w B A n xs)) :
    Calls Tryd.prog 71 #[.slice A n c, .int .u64 s] w fun e w' => ∃ g L, e = .returned (.slice (some ⟨g, 0, none⟩) (n + 1) (n + 1)) ∧ BlkN .u32 73 w' g L ∧ L.length = n + 1 ∧ DigN 4294967296 L ∧ valB 4294967296 L = x * 2 ^ s ∧ w.heap.size ≤ g ∧ Below w.heap.size w w' := by
  have HL := Lib.hid HR.out.1
  have hmk := mkNat1 n (by omega)
  go_enter Tryd.func71, Tryd.ntmps71
  go_wp2_with fail
  obtain ⟨g, hg⟩ : ∃ g, g = w.heap.size := ⟨_, rfl⟩
  rw [← hg]
  have HG := Lib.hid (show w.heap.size ≤ g by rw [hg]; exact Nat.le_refl _)
  obtain ⟨W, hW⟩ : ∃ W, W = w.alloc (.cells (cellsN .u32 (List.replicate (n + 1) 0)) 73) := ⟨_, rfl⟩
  have HB0 : Hid (BlkN .u32 73 W g (List.replicate (n + 1) 0)) := by rw [hW, hg]; exact BlkN.mk _ _ _ _
  have HW0 : Hid (Below w.heap.size w W) := by show Below _ _ _; rw [hW]; exact (Below.refl _ _).alloc (Nat.le_refl _) _
  rw [← hW]
  clear hW hg hmk
  go_loopw [15] (fun i wr => ∃ (k : Nat) (L : List Nat), k ≤ n ∧ i = .int .i64 k ∧ Hid (L.length = n + 1) ∧ Hid (DigN 4294967296 L) ∧ Hid (valB 4294967296 L = valB 4294967296 (xs.take k) * 2 ^ s) ∧ Hid (∀ p, k < p → L.getD p 0 = 0) ∧ Hid (L.getD k 0 < 2 ^ s) ∧ Hid (BlkN .u32 73 wr g L) ∧ Hid (Below w.heap.size w wr)) (fun i _ => n - (intOf i).toNat)
  case atStart => exact ⟨0, _, Nat.zero_le _, rfl, by show _ = _; simp, DigN.zeros (by omega) _, by show _ = _; rw [valB_zeros]; simp [valB], fun p _ => getD_zeros _ p, by show _ < _; rw [getD_zeros]; exact Nat.two_pow_pos s, HB0, HW0⟩
  case round =>
    obtain ⟨k, L, hk, rfl, hL, hD, hI, hZ, hlow, hb, hw⟩ := hrel
    by_cases hlt : k < n
    · obtain ⟨q, o, rfl, hq⟩ := HR.out.addr (by omega)
      have hx := (HR.out.below hw.out hB).cell hlt
      have hold := hb.out.cell (i := k) (by rw [hL.out]; omega)
      have hfr := hb.out.frozen k
      have hdx := HX.out.1.get (by omega) k
      obtain ⟨d, hd1⟩ : ∃ d, xs.getD k 0 = d := ⟨_, rfl⟩
      rw [hd1] at hx hdx
      obtain ⟨v, hv1⟩ : ∃ d, L.getD k 0 = d := ⟨_, rfl⟩
      rw [hv1] at hold
      have HD1 := Lib.hid hd1
      have HV1 := Lib.hid hv1
      have hold2 := hb.out.cell (i := k + 1) (by rw [hL.out]; omega)
      have hfr2 := hb.out.frozen (k + 1)
      rw [hZ.out (k + 1) (by omega)] at hold2
      obtain ⟨y, hy⟩ : ∃ y, d * 2 ^ s = y := ⟨_, rfl⟩
      have hps : 2 ^ s ≤ 2147483648 := Nat.pow_le_pow_right (by omega) (show s ≤ 31 by omega)
      have hpp := Nat.two_pow_pos s
      have hy9 : y < 4294967296 * 2 ^ s := by rw [← hy]; exact Nat.mul_lt_mul_of_pos_right hdx hpp
      have hv9 : v < 2 ^ s := by rw [← hv1]; exact hlow.out
      have hm9 : y % 4294967296 % 2 ^ s = 0 := by
        rw [Nat.mod_mod_of_dvd _ (show 2 ^ s ∣ 4294967296 from Nat.pow_dvd_pow 2 (show s ≤ 32 by omega)), ← hy]
        exact Nat.mul_mod_left _ _
      have hsh : IntKind.u64.wrap ((d : Int) * 2 ^ s) = (y : Int) := by
        have e : (d : Int) * 2 ^ s = (y : Int) := by rw [← hy, Int.natCast_mul, Int.natCast_pow]; rfl
        rw [e]; exact IntWalk.u64_in _ (by omega)
      obtain ⟨t, ht⟩ : ∃ t, v + y % 4294967296 = t := ⟨_, rfl⟩
      have hor : bits .or .u32 (v : Int) ((y : Int) % 4294967296) = (t : Int) := by
        have h1 := u32_or_nat v (y % 4294967296) (by omega) (by omega)
        rw [Nat.or_comm, nat_join s _ _ hm9 hv9, Nat.add_comm, ht] at h1
        exact h1
      have ht9 : t < 4294967296 := by
        have h1 := Nat.mod_lt y (show 0 < 4294967296 by omega)
        obtain ⟨m, hm⟩ : ∃ m, 4294967296 = 2 ^ s * m := (Nat.pow_dvd_pow 2 (show s ≤ 32 by omega) : 2 ^ s ∣ 2 ^ 32)
        obtain ⟨a, ha⟩ : ∃ a, y % 4294967296 = 2 ^ s * a := Nat.dvd_of_mod_eq_zero hm9
        rw [ha] at ht h1
        rw [hm] at h1 ⊢
        have h2 : a < m := Nat.lt_of_mul_lt_mul_left h1
        have h3 := Nat.mul_le_mul_left (2 ^ s) (show a + 1 ≤ m from h2)
        rw [Nat.mul_add] at h3
        omega
      obtain ⟨h, hh⟩ : ∃ h, y / 4294967296 = h := ⟨_, rfl⟩
      have hh9 : h < 2 ^ s := by rw [← hh]; exact Nat.div_lt_of_lt_mul hy9
      have hhi : (y : Int) / 4294967296 = (h : Int) := by omega
      have hyt : y < 9223372036854775808 := by omega
      have HSET := Lib.hid ((hb.out.set k t).set (k + 1) h)
      have HNEW := Lib.hid (left_step (b := 4294967296) (y := y) (X := xs) (by rw [hL.out]; omega) hv1 (hZ.out (k + 1) (by omega)) ht.symm hh.symm hd1 hy.symm hI.out)
      have HH := Lib.hid (And.intro hh9 (show h < 4294967296 by omega))
      have HT := Lib.hid ht9
      have hk0 : (0 : Int) ≤ (k : Int) ∧ (k : Int) < (n : Int) := by omega
      obtain ⟨hk0, hk1⟩ := hk0
      clear hd1 hv1 hy ht hh hm9 hh9 hv9 hy9 hps hpp
      go_wp2_with fail
      go_roundw
      case rel =>
        refine ⟨k + 1, _, by omega, by go_num, ?_, (hD.out.set HT.out k).set HH.out.2 (k + 1), HNEW, ?_, ?_, HSET, (hw.out.setCell HG.out _).setCell HG.out _⟩
        · show _ = _; rw [List.length_set, List.length_set]; exact hL.out
        · intro p hp
          rw [getDn_set_ne (by omega), getDn_set_ne (by omega)]
          exact hZ.out p (by omega)
        · show _ < _
          rw [getDn_set_self (by rw [List.length_set, hL.out]; omega)]
          exact HH.out.1
      case measure => simp [intOf] <;> omega
    · obtain rfl : k = n := by omega
      go_wp2_with fail
      go_ret
      refine ⟨_, _, rfl, hb.out, hL.out, hD.out, ?_, HG.out, hw.out⟩
      rw [hI.out, List.take_of_length_le (by rw [HL.out]; exact Nat.le_refl _), HV.out]
end Go.Proofs.YtcjdmffflepplaaDoor
