/- slices.Concat at []int. -/
import Derived.Test.YtkmcohnhanphdaaGreatDoorGrow
import Derived.Test.YtkmcohnhanphdaaGreatDoorWa
set_option linter.unusedSimpArgs false
set_option linter.unusedVariables false
namespace Go.Proofs.YtkmcohnhanphdaaGreatDoor
open Go.RowKit Go.Dw

def flatK (xss : List (List Int)) (k : Nat) : List Int := (xss.take k).flatten
theorem flatK_zero (xss : List (List Int)) : flatK xss 0 = [] := rfl
theorem flatK_succ {xss : List (List Int)} {k : Nat} (hk : k < xss.length) : flatK xss (k + 1) = flatK xss k ++ rowOf xss k := by
  unfold flatK; rw [take_row hk, List.flatten_append]; simp
theorem flatK_le (xss : List (List Int)) (k : Nat) : (flatK xss k).length ≤ xss.flatten.length := by
  have h : xss.flatten = flatK xss k ++ (xss.drop k).flatten := by unfold flatK; rw [← List.flatten_append, List.take_append_drop]
  rw [h, List.length_append]; omega
theorem flatK_all {xss : List (List Int)} {k : Nat} (h : xss.length ≤ k) : flatK xss k = xss.flatten := by unfold flatK; rw [List.take_of_length_le h]

set_option maxRecDepth 100000 in
set_option maxHeartbeats 1600000 in
theorem CONCAT_any (ad : Addr) (n c : Nat) (xss : List (List Int)) (F : List Int) (hF : Hid (xss.flatten = F)) (w : World) (B : Nat) (hB : B ≤ w.heap.size) (hn : n ≤ 1000) (hlen : F.length ≤ 1000000) (h : Hid (RowsAt w B (some ad) n xss)) :
    Calls Tryz.prog 46 #[.slice (some ad) n c] w fun e w' => (∃ A' c', e = .returned (.slice A' F.length c') ∧ w'.ownsRow w.heap.size 3 1 (.slice A' F.length c') F.length (F.map (Value.int .i64))) ∧ Below w.heap.size w w' := by
  have hl := Lib.hid h.out.1
  obtain ⟨i0, hi0, hz0, hz1, hz2⟩ := info_parts sint_info
  go_enter Tryz.func46, Tryz.ntmps46
  go_wp2_with fail
  go_loop [3, 11] (fun s i => ∃ k : Nat, k ≤ n ∧ i = .int .i64 k ∧ s = .int .i64 ((flatK xss k).length : Nat)) (fun _ i => n - (intOf i).toNat)
  case atStart => exact ⟨0, Nat.zero_le _, rfl, rfl⟩
  case round =>
    obtain ⟨k, hk, rfl, rfl⟩ := hrel
    by_cases hlt : k < n
    · have hkx : Hid (k < xss.length) := by show _ < _; have := hl.out; omega
      obtain ⟨A', n', c', hadB, hcell, hn', hc', hi⟩ := h.out.row hlt
      have hln := Lib.hid hi.1
      have hs := flatK_succ hkx.out
      have hle := flatK_le xss (k + 1)
      rw [hF.out] at hle
      have hle0 := flatK_le xss k
      rw [hF.out] at hle0
      have hS : Hid ((flatK xss (k + 1)).length = (flatK xss k).length + n') := by show _ = _; rw [hs, List.length_append, hln.out]
      rw [hS.out] at hle
      unfold maxLen at hc'
      clear hi hs
      obtain ⟨z, hz⟩ : ∃ z, (flatK xss k).length = z := ⟨_, rfl⟩
      rw [hz] at hS hle hle0 ⊢
      clear hz
      go_wp2_with fail
      go_round
      case rel => exact ⟨k + 1, by omega, by go_num, by rw [hS.out]; go_num⟩
      case measure => simp [intOf]; omega
    · obtain rfl : k = n := by omega
      rw [flatK_all (by rw [hl.out]; exact Nat.le_refl _), hF.out]
      have hG : Hid (Calls Tryz.prog 89 #[.slice none 0 0, .int .i64 (F.length : Nat)] w fun e w' => (∃ A c, e = .returned (.slice A 0 c) ∧ w'.ownsRow w.heap.size 3 1 (.slice A 0 c) 0 []) ∧ Below w.heap.size w w') := by
        by_cases h0 : F.length = 0
        · rw [h0]
          exact (GROW_zero w).mono fun e w' ⟨he, hw⟩ => by subst hw; exact ⟨⟨none, 0, he, World.ownsRow_nil _ _ _ _⟩, Below.refl _ _⟩
        · exact GROW_pos _ (by omega) hlen w
      go_wp2_with fail
      refine hG.out.mono ?_
      rintro e w1 ⟨⟨A1, c1, rfl, ho1⟩, hb1⟩
      have ho1' := Lib.hid ho1
      clear ho1
      go_wp2_with fail
      go_loopw [6, 27] (fun s i wr => ∃ (j : Nat) (A' : Option Addr) (c' : Nat), j ≤ k ∧ i = .int .i64 j ∧ s = .slice A' (flatK xss j).length c' ∧ Hid (wr.ownsRow w.heap.size 3 1 (.slice A' (flatK xss j).length c') (flatK xss j).length ((flatK xss j).map (Value.int .i64))) ∧ Hid (Below w.heap.size w wr)) (fun _ i _ => k - (intOf i).toNat)
      case atStart => exact ⟨0, A1, c1, Nat.zero_le _, rfl, rfl, ho1'.out, hb1⟩
      case round =>
        obtain ⟨j, A2, c2, hj, rfl, rfl, ho, hb⟩ := hrel
        by_cases hlt : j < k
        · have hkx : Hid (j < xss.length) := by show _ < _; have := hl.out; omega
          obtain ⟨A', n', c', hadB, hcell0, hn', hc', hi⟩ := h.out.row hlt
          have hcell := ((hb.out.mono hB).cell (p := ad.add j) (by rw [block_of_add]; exact hadB)).trans hcell0
          have hs := Lib.hid (flatK_succ hkx.out)
          have hle := flatK_le xss (j + 1)
          rw [hF.out] at hle
          have hln := Lib.hid hi.1
          have hS : Hid ((flatK xss (j + 1)).length = (flatK xss j).length + n') := by show _ = _; rw [hs.out, List.length_append, hln.out]
          rw [hS.out] at hle
          unfold maxLen at hc'
          have hi2 := Lib.hid (hi.below (hb.out.mono hB) (Nat.le_refl _)).reads
          have hzw := hb.out.size
          clear hi hcell0
          obtain ⟨z, hz⟩ : ∃ z, (flatK xss j).length = z := ⟨_, rfl⟩
          rw [hz] at ho hS hle ⊢
          clear hz
          go_wp2_with (at_builtin; refine wpList_append_any _ rfl (.tmp 31) (.tmp 32) _ rfl w.heap.size 3 i0 _ 1 8 Tryz.underlying42 hi0 hz0 hz1 hz2 rfl (by omega) _ z _ rfl ho.out B A' n' c' _ rfl hi2.out (ones _) (by simp only [maxLen]; omega) (by omega) (by omega) ?_; intro v3 w3 ho3 hg3 hat3)
          obtain ⟨A3, c3, rfl, _, _⟩ := own_form ho3
          have hb3 : Below w.heap.size w w3 := hb.out.grown hg3 (by omega) (fun g hg => (own_lt ho.out hg).1)
          have HO := Lib.hid ho3
          have HB := Lib.hid hb3
          clear ho3 hg3 hat3 hb3
          go_wp2_with fail
          go_roundw
          case rel =>
            refine ⟨j + 1, A3, c3, by omega, by go_num, by rw [hS.out], ?_, HB⟩
            have := HO.out
            rw [← List.map_append, ← hs.out, ← hS.out] at this
            exact this
          case measure => simp [intOf]; omega
        · obtain rfl : j = k := by omega
          rw [flatK_all (by rw [hl.out]; exact Nat.le_refl _), hF.out] at ho ⊢
          go_wp2_with fail
          go_ret
          exact ⟨⟨_, _, rfl, ho.out⟩, hb.out⟩
end Go.Proofs.YtkmcohnhanphdaaGreatDoor
