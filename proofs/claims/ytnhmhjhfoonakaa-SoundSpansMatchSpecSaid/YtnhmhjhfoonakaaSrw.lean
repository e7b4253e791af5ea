/- rows, of a sound: the spans of the numbers that a function value chooses. -/
import Derived.Test.YtnhmhjhfoonakaaRns
import Derived.Test.YtnhmhjhfoonakaaZa
set_option linter.unusedSimpArgs false
set_option linter.unusedVariables false
namespace Go.Proofs.Ytnhmhjhfoonakaa
open Go.RowKit Go.Dw
theorem rnR_few (b : Nat → Bool) (least : Int) (hl : 1 ≤ least) (i : Nat) : 2 * (rnR b least i).2.length ≤ i + 1 :=
  canon_few (n := i) (rnR_form b least hl i).1 (fun e he => by have := (rnR_form b least hl i).2 e he; have := rnR_le b least i; omega)
set_option maxRecDepth 100000 in
set_option maxHeartbeats 2000000 in
theorem ROWS_any (b : Nat → Bool) (n : Nat) (hn : n ≤ 100000) (least : Int) (hl1 : 1 ≤ least) (hl2 : least ≤ 100000) (fid : FuncId) (caps : Array Value) (w : World)
    (hcf : ∀ (args : Array Value) (W : World), (callFunc fid args).run Try.prog W = .ok (.enter fid args) W)
    (hf : Hid (∀ (i : Nat) w1, i < n → Below w.heap.size w w1 → Calls Try.prog fid (#[.int .i64 (i : Int)] ++ caps) w1 fun e w2 => e = .returned (.bool (b i)) ∧ Below w1.heap.size w1 w2)) :
    Calls Try.prog 32 #[.int .i64 (n : Int), .int .i64 least, .func (.func fid) #[] caps] w fun e w' => ∃ v, e = .returned v ∧ OwnPrs 48 w' w.heap.size v (runsS b n least) ∧ Below w.heap.size w w' := by
  go_enter Try.func32, Try.ntmps32
  go_wp2_with fail
  go_loopw [7, 8, 12] (fun s f i wr => ∃ (k f9 : Nat) (A : Option Addr) (m c : Nat) (o : List Pr), k ≤ n + 1 ∧ i = .int .i64 k ∧ f = .int .i64 f9 ∧ s = .slice A m c ∧ Hid (rnR (cutQ b n) least k = (f9, o)) ∧ f9 ≤ k ∧ m ≤ 100001 ∧ Hid (OwnPrs 48 wr w.heap.size (.slice A m c) o) ∧ Hid (Below w.heap.size w wr)) (fun _ _ i _ => n + 1 - (intOf i).toNat)
  case atStart => exact ⟨0, 0, none, 0, 0, [], by omega, rfl, rfl, rfl, rfl, by omega, by omega, OwnPrs.nil _ _ _, Below.refl _ _⟩
  case round =>
    obtain ⟨k, f, A, m, c, o, hk, rfl, rfl, rfl, hR, hfk, hm, hO, hb⟩ := hrel
    have hsz := hb.out.size
    have hk0 : (0 : Int) ≤ (k : Int) := by omega
    have hf0 : (0 : Int) ≤ (f : Int) := by omega
    by_cases hlt : k < n + 1
    · have hki : (k : Int) < (n : Int) + 1 := by omega
      by_cases hkn : k < n
      · have hkj : (k : Int) < (n : Int) := by omega
        go_wp2_with fail
        refine (hf.out k _ hkn hb.out).mono ?_
        rintro e w2 ⟨rfl, hb2⟩
        have HB2 := Lib.hid (hb.out.trans (hb2.mono hsz))
        have HO2 := Lib.hid (hO.out.below hb2)
        clear hb2 hO hb
        cases hbk : b k with
        | true =>
          have HR2 : Hid (rnR (cutQ b n) least (k + 1) = (f, o)) := by show _ = _; rw [rnR_on (by simp [cutQ, hkn, hbk])]; exact hR.out
          clear hR hbk
          go_wp2_with fail
          go_roundw
          case rel => exact ⟨k + 1, f, A, m, c, o, by omega, by go_num, rfl, rfl, HR2, by omega, hm, HO2, HB2⟩
          case measure => simp [intOf]; omega
        | false =>
          have hbk' : cutQ b n k = false := by simp [cutQ, hbk]
          have hsz2 := HB2.out.size
          clear hbk
          have hfew := rnR_few (cutQ b n) least hl1 k
          rw [hR.out] at hfew
          dsimp only at hfew
          obtain ⟨A9, c9, e9, _, _⟩ := HO2.out.len
          have HMO : Hid (m = o.length) := by show _ = _; injection e9
          clear e9
          have hw := IntWalk.i64_in ((k : Int) - (f : Int)) (by omega)
          by_cases hc : least ≤ (k : Int) - (f : Int)
          · have HR2 : Hid (rnR (cutQ b n) least (k + 1) = (k + 1, o ++ [((f : Int), (k : Int))])) := by show _ = _; rw [rnR_off hbk', hR.out]; dsimp only; rw [if_pos hc]
            clear hR hbk'
            go_wp2_with (with_reducible refine wpList_push_span rfl (.tmp 28) (.tmp 32) rfl w.heap.size A m c o (f : Int) (k : Int) w2.heap.size rfl rfl rfl HO2.out (by omega) hsz2 ?_; intro g5 cap5 w5 hown5 hb5)
            have HO5 := Lib.hid hown5
            have HB5 := Lib.hid (HB2.out.trans hb5)
            clear hown5 hb5
            go_roundw
            case rel => exact ⟨k + 1, k + 1, _, m + 1, cap5, _, by omega, by go_num, by go_num, rfl, HR2, by omega, (by have := HMO.out; omega), HO5, HB5⟩
            case measure => simp [intOf]; omega
          · have HR2 : Hid (rnR (cutQ b n) least (k + 1) = (k + 1, o)) := by show _ = _; rw [rnR_off hbk', hR.out]; dsimp only; rw [if_neg hc]
            clear hR hbk'
            go_wp2_with fail
            go_roundw
            case rel => exact ⟨k + 1, k + 1, A, m, c, o, by omega, by go_num, by go_num, rfl, HR2, by omega, hm, HO2, HB2⟩
            case measure => simp [intOf]; omega
      · have hkj : ¬ (k : Int) < (n : Int) := by omega
        have hbk' : cutQ b n k = false := by simp [cutQ, hkn]
        have hsz2 := hsz
        have hfew := rnR_few (cutQ b n) least hl1 k
        rw [hR.out] at hfew
        dsimp only at hfew
        obtain ⟨A9, c9, e9, _, _⟩ := hO.out.len
        have HMO : Hid (m = o.length) := by show _ = _; injection e9
        clear e9
        have hw := IntWalk.i64_in ((k : Int) - (f : Int)) (by omega)
        by_cases hc : least ≤ (k : Int) - (f : Int)
        · have HR2 : Hid (rnR (cutQ b n) least (k + 1) = (k + 1, o ++ [((f : Int), (k : Int))])) := by show _ = _; rw [rnR_off hbk', hR.out]; dsimp only; rw [if_pos hc]
          clear hR hbk'
          go_wp2_with (with_reducible refine wpList_push_span rfl (.tmp 28) (.tmp 32) rfl w.heap.size A m c o (f : Int) (k : Int) wr.heap.size rfl rfl rfl hO.out (by omega) hsz2 ?_; intro g5 cap5 w5 hown5 hb5)
          have HO5 := Lib.hid hown5
          have HB5 := Lib.hid (hb.out.trans hb5)
          clear hown5 hb5
          go_roundw
          case rel => exact ⟨k + 1, k + 1, _, m + 1, cap5, _, by omega, by go_num, by go_num, rfl, HR2, by omega, (by have := HMO.out; omega), HO5, HB5⟩
          case measure => simp [intOf]; omega
        · have HR2 : Hid (rnR (cutQ b n) least (k + 1) = (k + 1, o)) := by show _ = _; rw [rnR_off hbk', hR.out]; dsimp only; rw [if_neg hc]
          clear hR hbk'
          go_wp2_with fail
          go_roundw
          case rel => exact ⟨k + 1, k + 1, A, m, c, o, by omega, by go_num, by go_num, rfl, HR2, by omega, hm, hO, hb⟩
          case measure => simp [intOf]; omega
    · obtain rfl : k = n + 1 := by omega
      have hki : ¬ ((n + 1 : Nat) : Int) < (n : Int) + 1 := by omega
      have HV : Hid (runsS b n least = o) := by show _ = _; unfold runsS; rw [hR.out]
      go_wp2_with fail
      go_ret
      exact ⟨_, rfl, by rw [HV.out]; exact hO.out, hb.out⟩
end Go.Proofs.Ytnhmhjhfoonakaa
