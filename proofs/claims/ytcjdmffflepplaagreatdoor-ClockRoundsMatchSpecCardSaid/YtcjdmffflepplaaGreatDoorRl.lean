/- The document's limbs: add. -/
import Derived.Test.YtcjdmffflepplaaGreatDoorYn
import Derived.Test.YtcjdmffflepplaaGreatDoorYn
import Derived.Test.YtcjdmffflepplaaGreatDoorYo
import Derived.Test.YtcjdmffflepplaaGreatDoorYa
set_option linter.unusedSimpArgs false
set_option linter.unusedVariables false
namespace Go.Proofs.YtcjdmffflepplaaGreatDoor
open Go.RowKit Go.Dw
set_option maxRecDepth 100000 in
set_option maxHeartbeats 2000000 in
theorem RADD_any (A A' : Option Addr) (n c x n' c' y : Nat) (hn : n ≤ 1000000000) (hn' : n' ≤ 1000000000) (w : World) (B : Nat) (hB : B ≤ w.heap.size) (hh : Hid (LimAt w B A n c x)) (hh' : Hid (LimAt w B A' n' c' y)) :
    Calls Tryz.prog 93 #[.slice A n c, .slice A' n' c'] w (OutL w (x + y) (max n n' + 1)) := by
  obtain ⟨hc1, hc2, xs, hx, hv, hr⟩ := hh.out
  obtain ⟨hc1', hc2', ys, hx', hv', hr'⟩ := hh'.out
  have hl := hr.1
  have hl' := hr'.1
  unfold maxLen at hc2 hc2'
  have HX := Lib.hid hx
  have HV := Lib.hid hv
  have HR := Lib.hid hr
  have HX' := Lib.hid hx'
  have HV' := Lib.hid hv'
  have HR' := Lib.hid hr'
  have HL := Lib.hid hl
  have HL' := Lib.hid hl'
  clear hx hv hr hx' hv' hr' hl hl' hh hh'
  go_enter Tryz.func93, Tryz.ntmps93
  go_wp2_with fail
  go_loopw [5, 6, 7] (fun ov cv i wr => ∃ (k cN : Nat) (Ab : Option Addr) (cb : Nat) (L : List Nat), k ≤ max n n' ∧ i = .int .i64 k ∧ cv = .int .i64 cN ∧ ov = .slice Ab k cb ∧ cN ≤ 1 ∧ Hid (OwnN .i64 3 wr w.heap.size Ab k cb L) ∧ Hid (DigN 10000 L) ∧ Hid (valB 10000 L + 10000 ^ k * cN = valB 10000 (xs.take k) + valB 10000 (ys.take k)) ∧ Hid (Below w.heap.size w wr)) (fun _ _ i _ => max n n' - (intOf i).toNat)
  case atStart => exact ⟨0, 0, none, 0, [], Nat.zero_le _, rfl, rfl, rfl, Nat.zero_le _, OwnN.nil _ _ _ _, DigN.nil _, by show _ = _; simp [valB], Below.refl _ _⟩
  case round =>
    obtain ⟨k, cN, Ab, cb, L, hk, rfl, rfl, rfl, hcN, hown, hD, hI, hw⟩ := hrel
    have HRX := Lib.hid (HR.out.below hw.out hB)
    have HRY := Lib.hid (HR'.out.below hw.out hB)
    have hlk := Lib.hid hown.out.1
    by_cases hlt : k < max n n'
    · have hdx := HX.out.1.get (by omega) k
      have hdy := HX'.out.1.get (by omega) k
      obtain ⟨d, hd1⟩ : ∃ d, xs.getD k 0 = d := ⟨_, rfl⟩
      obtain ⟨d', hd2⟩ : ∃ d, ys.getD k 0 = d := ⟨_, rfl⟩
      have HD1 := Lib.hid hd1
      have HD2 := Lib.hid hd2
      rw [hd1] at hdx
      rw [hd2] at hdy
      obtain ⟨u, hu⟩ : ∃ u, cN + d = u := ⟨_, rfl⟩
      obtain ⟨s, hs⟩ : ∃ s, u + d' = s := ⟨_, rfl⟩
      have HU := Lib.hid hu
      have HS := Lib.hid hs
      have hui : (cN : Int) + (d : Int) = (u : Int) := by omega
      have hsi : (u : Int) + (d' : Int) = (s : Int) := by omega
      have hu1 : u < 20000 := by omega
      have hs1 : s < 30000 := by omega
      have HNEW := Lib.hid (add_snoc (b := 10000) (X := xs) (Y := ys) (s := s) hlk.out (by rw [HD1.out, HD2.out]; omega) hI.out)
      obtain ⟨r, hr1⟩ : ∃ r, s % 10000 = r := ⟨_, rfl⟩
      obtain ⟨t, ht1⟩ : ∃ t, s / 10000 = t := ⟨_, rfl⟩
      have hri : (s : Int).tmod 10000 = (r : Int) := by rw [← hr1]; exact tmodN s 10000
      have hti : (s : Int).tdiv 10000 = (t : Int) := by rw [← ht1]; exact tdivN s 10000
      have ht9 : t ≤ 1 := by omega
      have hr9 : r < 10000 := by omega
      rw [hr1, ht1] at HNEW
      have hk0 : (0 : Int) ≤ (k : Int) := by omega
      clear hd1 hd2 hu hs hr1 ht1
      by_cases hx : k < n
      · obtain ⟨q, o, rfl, hq⟩ := HRX.out.addr (by omega)
        have hx1 := HRX.out.cell hx
        rw [HD1.out] at hx1
        by_cases hy : k < n'
        · obtain ⟨q', o', rfl, hq'⟩ := HRY.out.addr (by omega)
          have hy1 := HRY.out.cell hy
          rw [HD2.out] at hy1
          go_wp2_with (at_builtin; refine wpList_push_num rfl (.tmp 42) (.tmp 45) 53 3 .i64 8 rfl Tryz.underlying53 int_info w.heap.size Ab k cb L r _ rfl _ rfl rfl rfl hown.out (by omega) (by omega) hw.out.size ?_; intro g cap w3 p1 p2 p3)
          go_roundw
          case rel => exact ⟨k + 1, t, some ⟨g, 0, none⟩, cap, L ++ [r], by omega, by go_num, rfl, rfl, ht9, p1, hD.out.snoc hr9, HNEW, Lib.hid (hw.out.trans p2.out)⟩
          case measure => simp [intOf] <;> omega
        · obtain rfl : d' = 0 := by rw [← HD2.out]; exact getD_over (by rw [HL'.out]; omega)
          obtain rfl : u = s := by have := HS.out; omega
          clear hsi
          go_wp2_with (at_builtin; refine wpList_push_num rfl (.tmp 42) (.tmp 45) 53 3 .i64 8 rfl Tryz.underlying53 int_info w.heap.size Ab k cb L r _ rfl _ rfl rfl rfl hown.out (by omega) (by omega) hw.out.size ?_; intro g cap w3 p1 p2 p3)
          go_roundw
          case rel => exact ⟨k + 1, t, some ⟨g, 0, none⟩, cap, L ++ [r], by omega, by go_num, rfl, rfl, ht9, p1, hD.out.snoc hr9, HNEW, Lib.hid (hw.out.trans p2.out)⟩
          case measure => simp [intOf] <;> omega
      · have hy : k < n' := by omega
        obtain rfl : d = 0 := by rw [← HD1.out]; exact getD_over (by rw [HL.out]; omega)
        obtain rfl : cN = u := by have := HU.out; omega
        obtain ⟨q', o', rfl, hq'⟩ := HRY.out.addr (by omega)
        have hy1 := HRY.out.cell hy
        rw [HD2.out] at hy1
        clear hui
        go_wp2_with (at_builtin; refine wpList_push_num rfl (.tmp 42) (.tmp 45) 53 3 .i64 8 rfl Tryz.underlying53 int_info w.heap.size Ab k cb L r _ rfl _ rfl rfl rfl hown.out (by omega) (by omega) hw.out.size ?_; intro g cap w3 p1 p2 p3)
        go_roundw
        case rel => exact ⟨k + 1, t, some ⟨g, 0, none⟩, cap, L ++ [r], by omega, by go_num, rfl, rfl, ht9, p1, hD.out.snoc hr9, HNEW, Lib.hid (hw.out.trans p2.out)⟩
        case measure => simp [intOf] <;> omega
    · have hkm : k = max n n' := by omega
      have hx : ¬ k < n := by omega
      have hy : ¬ k < n' := by omega
      have hI2 := hI.out
      rw [List.take_of_length_le (l := xs) (by rw [HL.out]; omega), List.take_of_length_le (l := ys) (by rw [HL'.out]; omega), HV.out, HV'.out] at hI2
      by_cases hc0 : cN = 0
      · subst hc0
        have HE : Hid (valB 10000 L = x + y) := by show _ = _; omega
        have HC : Hid (CanN 10000 L) := by
          by_cases hg : n' ≤ n
          · exact CanN.of_le (by omega) HX.out hD.out (by rw [hlk.out, HL.out]; omega) (by rw [HE.out, HV.out]; omega)
          · exact CanN.of_le (by omega) HX'.out hD.out (by rw [hlk.out, HL'.out]; omega) (by rw [HE.out, HV'.out]; omega)
        clear hI2 hkm
        go_wp2_with fail
        go_ret
        exact ⟨_, _, _, rfl, by rw [← HE.out]; exact hown.out.num HC.out, by omega, hw.out⟩
      · have hc1 : 0 < cN := by omega
        have HE : Hid (valB 10000 (L ++ [cN]) = x + y) := by show _ = _; rw [valB_snoc, hlk.out]; omega
        have HC : Hid (CanN 10000 (L ++ [cN])) := CanN.snoc hD.out (by omega) hc0
        have hc2 : (0 : Int) < (cN : Int) := by omega
        clear hI2 hc0 hkm
        go_wp2_with (at_builtin; refine wpList_push_num rfl (.tmp 51) (.tmp 53) 53 3 .i64 8 rfl Tryz.underlying53 int_info w.heap.size Ab k cb L cN _ rfl _ rfl rfl rfl hown.out (by omega) (by omega) hw.out.size ?_; intro g cap w3 p1 p2 p3)
        go_ret
        exact ⟨_, _, _, rfl, by rw [← HE.out]; exact p1.out.num HC.out, by omega, hw.out.trans p2.out⟩
end Go.Proofs.YtcjdmffflepplaaGreatDoor
