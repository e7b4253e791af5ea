/- spansOf and few, of the document. -/
import Derived.Test.YtnhmhjhfoonakaaSim
import Derived.Test.YtnhmhjhfoonakaaYq
set_option linter.unusedSimpArgs false
set_option linter.unusedVariables false
namespace Go.Proofs.Ytnhmhjhfoonakaa
open Go.RowKit Go.Dw
theorem RFEW_any (A : Option Addr) (c n : Nat) (R : List Pr) (hn : Hid (R.length = n)) (w : World) : Calls Try.prog 37 #[.slice A n c] w fun e w' => (e = .returned (.tuple #[if 1000 < n then .slice none 0 0 else .slice A n c, .int .i64 (fewS R).2])) ∧ w = w' := by
  by_cases h : 1000 < n
  · have HV : Hid (fewS R = ([], 2)) := by show _ = _; unfold fewS; rw [hn.out, if_pos h]
    have hi : (1000 : Int) < (n : Int) := by omega
    go_enter Try.func37, Try.ntmps37
    go_wp2_with fail
    refine bodyPost_ret (v := .tuple #[.slice none 0 0, .int .i64 2]) (by simp [results, Try.results37, go_sem]) rfl ?_
    rw [HV.out]
    exact ⟨rfl, rfl⟩
  · have HV : Hid (fewS R = (R, 0)) := by show _ = _; unfold fewS; rw [hn.out, if_neg h]
    have hi : ¬ (1000 : Int) < (n : Int) := by omega
    go_enter Try.func37, Try.ntmps37
    go_wp2_with fail
    refine bodyPost_ret (v := .tuple #[.slice A n c, .int .i64 0]) (by simp [results, Try.results37, go_sem]) rfl ?_
    rw [HV.out]
    exact ⟨rfl, rfl⟩
set_option maxRecDepth 100000 in
set_option maxHeartbeats 4000000 in
theorem RSPANSOF_any (f : Nat → Bool) (A : Option Addr) (n c : Nat) (hn : n ≤ 100000) (least : Int) (hl1 : 1 ≤ least) (hl2 : least ≤ 100000) (w : World) (B : Nat) (hB : B ≤ w.heap.size) (hh : Hid (VsAt w B A n fun k => .bool (f k))) :
    Calls Try.prog 38 #[.slice A n c, .int .i64 least] w fun e w' => ∃ v, e = .returned v ∧ OwnPrs 48 w' w.heap.size v (runsS f n least) ∧ Below w.heap.size w w' := by
  go_enter Try.func38, Try.ntmps38
  go_wp2_with fail
  go_loopw [5, 6, 7] (fun s z i wr => ∃ (k g : Nat) (z9 : Int) (A9 : Option Addr) (m c9 : Nat) (os : List Pr), k ≤ n + 1 ∧ i = .int .i64 k ∧ z = .int .i64 z9 ∧ s = .slice A9 m c9 ∧ Hid (rnR (cutQ f n) least k = (g, os)) ∧ (z9 = -1 ∧ g = k ∨ z9 = (g : Int) ∧ g < k) ∧ g ≤ k ∧ m ≤ 100001 ∧ Hid (OwnPrs 48 wr w.heap.size (.slice A9 m c9) os) ∧ Hid (Below w.heap.size w wr)) (fun _ _ i _ => n + 1 - (intOf i).toNat)
  case atStart => exact ⟨0, 0, -1, none, 0, 0, [], by omega, rfl, rfl, rfl, rfl, .inl ⟨rfl, rfl⟩, by omega, by omega, OwnPrs.nil _ _ _, Below.refl _ _⟩
  case round =>
    obtain ⟨k, g, z, A9, m, c9, os, hk, rfl, rfl, rfl, hR, hz, hgk, hm, hO, hb⟩ := hrel
    have hsz := hb.out.size
    have hk0 : (0 : Int) ≤ (k : Int) := by omega
    have hg0 : (0 : Int) ≤ (g : Int) := by omega
    have hg1 : ¬ (g : Int) < 0 := by omega
    by_cases hlt : k ≤ n
    · have hki : (k : Int) ≤ (n : Int) := by omega
      by_cases hkn : k < n
      · have hkj : (k : Int) < (n : Int) := by omega
        obtain ⟨b, o, rfl, hbB, hcell0⟩ := hh.out k hkn
        have hcell := (hb.out.cell (p := ⟨b, o + k, none⟩) (by dsimp only; omega)).trans hcell0
        dsimp only at hcell
        clear hcell0
        cases hbk : f k with
        | true =>
          rw [hbk] at hcell
          have HR2 : Hid (rnR (cutQ f n) least (k + 1) = (g, os)) := by show _ = _; rw [rnR_on (by simp [cutQ, hkn, hbk])]; exact hR.out
          clear hR hbk
          rcases hz with ⟨rfl, hfe⟩ | ⟨rfl, hfe⟩
          · go_wp2_with fail
            go_roundw
            case rel => exact ⟨k + 1, g, (g : Int), A9, m, c9, os, by omega, by go_num, (by rw [hfe]), rfl, HR2, .inr ⟨rfl, by omega⟩, by omega, hm, hO, hb⟩
            case measure => simp [intOf]; omega
          · go_wp2_with fail
            go_roundw
            case rel => exact ⟨k + 1, g, (g : Int), A9, m, c9, os, by omega, by go_num, rfl, rfl, HR2, .inr ⟨rfl, by omega⟩, by omega, hm, hO, hb⟩
            case measure => simp [intOf]; omega
        | false =>
          rw [hbk] at hcell
          have hbk' : cutQ f n k = false := by simp [cutQ, hbk]
          clear hbk
          rcases hz with ⟨rfl, hfe⟩ | ⟨rfl, hfe⟩
          · have HR2 : Hid (rnR (cutQ f n) least (k + 1) = (k + 1, os)) := by show _ = _; rw [rnR_off hbk', hR.out]; dsimp only; rw [if_neg (by omega)]
            clear hR hbk'
            go_wp2_with fail
            go_roundw
            case rel => exact ⟨k + 1, k + 1, -1, A9, m, c9, os, by omega, by go_num, rfl, rfl, HR2, .inl ⟨rfl, rfl⟩, by omega, hm, hO, hb⟩
            case measure => simp [intOf]; omega
          · have hw := IntWalk.i64_in ((k : Int) - (g : Int)) (by omega)
            by_cases hc : least ≤ (k : Int) - (g : Int)
            · have HR2 : Hid (rnR (cutQ f n) least (k + 1) = (k + 1, os ++ [((g : Int), (k : Int))])) := by show _ = _; rw [rnR_off hbk', hR.out]; dsimp only; rw [if_pos hc]
              have hfew := rnR_few (cutQ f n) least hl1 k
              rw [hR.out] at hfew
              dsimp only at hfew
              obtain ⟨A8, c8, e9, _, _⟩ := hO.out.len
              have HMO : Hid (m = os.length) := by show _ = _; injection e9
              clear e9 hR hbk'
              go_wp2_with (with_reducible refine wpList_push_span rfl (.tmp 42) (.tmp 46) rfl w.heap.size A9 m c9 os (g : Int) (k : Int) wr.heap.size rfl rfl rfl hO.out (by omega) hsz ?_; intro g5 cap5 w5 hown5 hb5)
              have HO5 := Lib.hid hown5
              have HB5 := Lib.hid (hb.out.trans hb5)
              clear hown5 hb5
              go_roundw
              case rel => exact ⟨k + 1, k + 1, -1, _, m + 1, cap5, _, by omega, by go_num, rfl, rfl, HR2, .inl ⟨rfl, rfl⟩, by omega, (by have := HMO.out; omega), HO5, HB5⟩
              case measure => simp [intOf]; omega
            · have HR2 : Hid (rnR (cutQ f n) least (k + 1) = (k + 1, os)) := by show _ = _; rw [rnR_off hbk', hR.out]; dsimp only; rw [if_neg hc]
              clear hR hbk'
              go_wp2_with fail
              go_roundw
              case rel => exact ⟨k + 1, k + 1, -1, A9, m, c9, os, by omega, by go_num, rfl, rfl, HR2, .inl ⟨rfl, rfl⟩, by omega, hm, hO, hb⟩
              case measure => simp [intOf]; omega
      · have hkj : ¬ (k : Int) < (n : Int) := by omega
        have hbk' : cutQ f n k = false := by simp [cutQ, hkn]
        rcases hz with ⟨rfl, hfe⟩ | ⟨rfl, hfe⟩
        · have HR2 : Hid (rnR (cutQ f n) least (k + 1) = (k + 1, os)) := by show _ = _; rw [rnR_off hbk', hR.out]; dsimp only; rw [if_neg (by omega)]
          clear hR hbk'
          go_wp2_with fail
          go_roundw
          case rel => exact ⟨k + 1, k + 1, -1, A9, m, c9, os, by omega, by go_num, rfl, rfl, HR2, .inl ⟨rfl, rfl⟩, by omega, hm, hO, hb⟩
          case measure => simp [intOf]; omega
        · have hw := IntWalk.i64_in ((k : Int) - (g : Int)) (by omega)
          by_cases hc : least ≤ (k : Int) - (g : Int)
          · have HR2 : Hid (rnR (cutQ f n) least (k + 1) = (k + 1, os ++ [((g : Int), (k : Int))])) := by show _ = _; rw [rnR_off hbk', hR.out]; dsimp only; rw [if_pos hc]
            have hfew := rnR_few (cutQ f n) least hl1 k
            rw [hR.out] at hfew
            dsimp only at hfew
            obtain ⟨A8, c8, e9, _, _⟩ := hO.out.len
            have HMO : Hid (m = os.length) := by show _ = _; injection e9
            clear e9 hR hbk'
            go_wp2_with (with_reducible refine wpList_push_span rfl (.tmp 42) (.tmp 46) rfl w.heap.size A9 m c9 os (g : Int) (k : Int) wr.heap.size rfl rfl rfl hO.out (by omega) hsz ?_; intro g5 cap5 w5 hown5 hb5)
            have HO5 := Lib.hid hown5
            have HB5 := Lib.hid (hb.out.trans hb5)
            clear hown5 hb5
            go_roundw
            case rel => exact ⟨k + 1, k + 1, -1, _, m + 1, cap5, _, by omega, by go_num, rfl, rfl, HR2, .inl ⟨rfl, rfl⟩, by omega, (by have := HMO.out; omega), HO5, HB5⟩
            case measure => simp [intOf]; omega
          · have HR2 : Hid (rnR (cutQ f n) least (k + 1) = (k + 1, os)) := by show _ = _; rw [rnR_off hbk', hR.out]; dsimp only; rw [if_neg hc]
            clear hR hbk'
            go_wp2_with fail
            go_roundw
            case rel => exact ⟨k + 1, k + 1, -1, A9, m, c9, os, by omega, by go_num, rfl, rfl, HR2, .inl ⟨rfl, rfl⟩, by omega, hm, hO, hb⟩
            case measure => simp [intOf]; omega
    · obtain rfl : k = n + 1 := by omega
      have hki : ¬ ((n + 1 : Nat) : Int) ≤ (n : Int) := by omega
      have HV : Hid (runsS f n least = os) := by show _ = _; unfold runsS; rw [hR.out]
      clear hz
      go_wp2_with fail
      go_ret
      exact ⟨_, rfl, by rw [HV.out]; exact hO.out, hb.out⟩
end Go.Proofs.Ytnhmhjhfoonakaa
