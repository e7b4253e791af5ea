/- num: natText, a number read from its digits. -/
import Derived.Test.YtcjdmffflepplaaDoorNtrim
import Derived.Test.YtcjdmffflepplaaDoorNo
import Derived.Test.YtcjdmffflepplaaDoorNadd
import Derived.Deep.LoopGhost
import Derived.Lib.IndexBytes
import Derived.Deep.DeepCutAuto
import Derived.Test.YtcjdmffflepplaaDoorNdec
set_option linter.unusedSimpArgs false
set_option linter.unusedVariables false
namespace Go.Proofs.YtcjdmffflepplaaDoor
open Go.RowKit Go.Dw

theorem len_data (t : ByteArray) : t.data.toList.length = t.size := by show t.data.toList.length = t.data.size; simp
theorem at_getD (t : ByteArray) {i : Nat} (h : i < t.size) : t[i] = t.data.toList.getD i 0 := by
  have h1 : i < t.data.toList.length := by rw [len_data]; exact h
  show t.data[i]'(by simpa using h1) = _
  have h2 : i < t.data.size := by simpa using h1
  simp only [List.getD, Array.getElem?_toList]
  rw [Array.getElem?_eq_getElem h2]
  rfl
theorem getD_mem {l : List UInt8} {i : Nat} (h : i < l.length) : l.getD i 0 ∈ l := by
  have : l.getD i 0 = l[i] := by simp [List.getD, h]
  rw [this]; exact List.getElem_mem h
theorem ext_data (t : ByteArray) (i : Nat) : (t.extract i t.size).data.toList = t.data.toList.drop i := Lib.extract_to_end t i
set_option maxRecDepth 100000 in
set_option maxHeartbeats 4000000 in
theorem NATTEXT_any (s : ByteArray) (hd : Hid (AllDig s.data.toList)) (hs : s.size ≤ 1000000) (w : World) :
    Calls Tryd.prog 55 #[.string s] w (OutN w (decV s.data.toList) s.size) := by
  have hl : s.data.toList.length = s.size := by show s.data.toList.length = s.data.size; simp
  have HL := Lib.hid hl
  clear hl
  go_enter Tryd.func55, Tryd.ntmps55
  go_wp2_with fail
  go_loopg [0, 3] s.size (fun g s0 s3 wr => ∃ (t : ByteArray) (A : Option Addr) (n c : Nat) (L : List Nat), s0 = .string t ∧ s3 = .slice A n c ∧ t.size = g ∧ g ≤ s.size ∧ n + g ≤ s.size ∧ Hid (t.data.toList = s.data.toList.drop (s.size - g)) ∧ Hid (OwnN .u32 73 wr w.heap.size A n c L) ∧ Hid (CanN 4294967296 L) ∧ Hid (valB 4294967296 L = decV (s.data.toList.take (s.size - g))) ∧ Hid (Below w.heap.size w wr))
  case atStart => exact ⟨s, none, 0, 0, [], rfl, rfl, rfl, Nat.le_refl _, by omega, by show _ = _; rw [Nat.sub_self, List.drop_zero], OwnN.nil _ _ _ _, CanN.nil _, by show _ = _; rw [Nat.sub_self, List.take_zero]; rfl, Below.refl _ _⟩
  case round =>
    obtain ⟨t, A, n, c, L, rfl, rfl, hts, hg, hng, htl, hown, hcan, hval, hw⟩ := hrel
    by_cases h0 : 0 < gk
    · have HTS := Lib.hid hts
      have hts0 : 0 < t.size := by omega
      have hts1 : t.size ≤ 1000000 := by omega
      clear hts
      obtain ⟨k, hk⟩ : ∃ k, min 9 t.size = k := ⟨_, rfl⟩
      have hk1 : k ≤ t.size := by omega
      have hk9 : k ≤ 9 := by omega
      have hk0 : 0 < k := by omega
      have HK := Lib.hid hk
      clear hk
      go_upto_region 3 with (fail)
      go_cut [4] (fun v wx => v = .int .i64 (k : Int) ∧ wx = wr)
      case first =>
        go_wp2_with fail
        all_goals
          go_meet
          refine ⟨val_int ?_, rfl⟩
          have := HK.out
          omega
      obtain ⟨rfl, rfl⟩ := hcut
      go_wp2_with fail
      go_loop [5, 6, 16] (fun s5 s6 s16 => ∃ i cN sN : Nat, i ≤ k ∧ s16 = .int .i64 i ∧ s5 = .int .u64 cN ∧ s6 = .int .u64 sN ∧ cN < sN ∧ sN ≤ 1000000000 ∧ Hid (cN = decV (t.data.toList.take i)) ∧ Hid (sN = 10 ^ i)) (fun _ _ i => k - (intOf i).toNat)
      case atStart => exact ⟨0, 0, 1, Nat.zero_le _, rfl, rfl, rfl, by omega, by omega, rfl, rfl⟩
      case round =>
        obtain ⟨i, cN, sN, hi, rfl, rfl, rfl, hcs, hsN, HC, HS⟩ := hrel
        by_cases hlt : i < k
        · have hit : i < t.size := by omega
          go_wp2_with fail
          have hby := at_getD t hit
          have hdg : 48 ≤ t[i].toNat ∧ t[i].toNat ≤ 57 := by
            rw [hby]
            refine hd.out _ ?_
            have h1 : t.data.toList.getD i 0 ∈ t.data.toList := getD_mem (by rw [len_data]; exact hit)
            have h2 : t.data.toList.getD i 0 ∈ s.data.toList.drop (s.size - gk) := by rw [← htl.out]; exact h1
            exact List.mem_of_mem_drop h2
          have hpw : 10 ^ (i + 1) ≤ 10 ^ 9 := Nat.pow_le_pow_right (by omega) (by omega)
          have HSN : 10 ^ (i + 1) = 10 * sN := by rw [Nat.pow_succ, HS.out, Nat.mul_comm]
          have HCN := decV_take_succ (l := t.data.toList) (i := i) (by rw [len_data]; exact hit)
          rw [← hby] at HCN
          go_round
          case rel =>
            refine ⟨i + 1, 10 * cN + (t[i].toNat - 48), 10 * sN, by omega, by go_num, val_int (by omega), val_int (by omega), by omega, by omega, ?_, HSN.symm⟩
            show _ = _
            rw [HCN, HC.out]
          case measure => simp [intOf] <;> omega
        · obtain rfl : i = k := by omega
          have hcs1 : (1 : Nat) ≤ sN := by omega
          obtain ⟨W, rfl⟩ : ∃ W : World, W = wc := ⟨_, rfl⟩
          have hn9 : n ≤ 1000000 := by omega
          have HT2 : Hid ((t.extract i t.size).data.toList = s.data.toList.drop (s.size - (gk - i)) ∧ (t.extract i t.size).size = gk - i) := by
            have e1 : (t.extract i t.size).data.toList = t.data.toList.drop i := ext_data t i
            refine ⟨?_, ?_⟩
            · rw [e1, htl.out, List.drop_drop]
              congr 1
              have := HTS.out
              omega
            · have := congrArg List.length e1
              rw [len_data, List.length_drop, len_data] at this
              rw [this, HTS.out]
          have HV2 : Hid (cN + sN * valB 4294967296 L = decV (s.data.toList.take (s.size - (gk - i)))) := by
            have e1 : s.size - (gk - i) = (s.size - gk) + i := by have := HTS.out; omega
            show _ = _
            rw [e1, List.take_add, decV_append, ← htl.out, HC.out, HS.out, hval.out, List.length_take, len_data, Nat.min_eq_left hk1]
            omega
          clear HC HS htl hval HK
          obtain ⟨u, hu⟩ : ∃ u, t.extract i t.size = u := ⟨_, rfl⟩
          rw [hu] at HT2
          go_wp2_with fail
          have HU := Lib.hid hu
          clear hu
          go_loopw [5, 35] (fun s5 s35 wi => ∃ (j cj : Nat) (M : List Nat), j ≤ n ∧ s35 = .int .i64 j ∧ s5 = .int .u64 cj ∧ cj < sN ∧ Hid (DigN 4294967296 M) ∧ Hid (M.drop j = L.drop j) ∧ Hid (valB 4294967296 (M.take j) + 4294967296 ^ j * cj = cN + sN * valB 4294967296 (L.take j)) ∧ Hid (OwnN .u32 73 wi w.heap.size A n c M) ∧ Hid (Below w.heap.size w wi)) (fun _ j _ => n - (intOf j).toNat)
          case atStart => exact ⟨0, cN, L, Nat.zero_le _, rfl, rfl, hcs, hcan.out.1, rfl, by show _ = _; rw [List.take_zero, Nat.pow_zero, Nat.one_mul, show valB 4294967296 [] = 0 from rfl, Nat.mul_zero, Nat.zero_add, Nat.add_zero], hown, hw⟩
          case round =>
            have HLL := Lib.hid hown.out.1
            clear hown hw
            obtain ⟨j, cj, M, hj, rfl, rfl, hcj, hmd, hmdr, hI, hown, hw⟩ := hrel
            have hfm := hown.out.form
            obtain ⟨hf1, hf2⟩ := hfm
            unfold maxLen at hf2
            by_cases hjt : j < n
            · obtain ⟨g, rfl, hgb, hgw⟩ := hown.out.addr (by omega)
              have hcell := hown.out.cell hjt
              have hfr := hown.out.frozen j
              have hdd := hmd.out.get (by omega) j
              have hLd : M.getD j 0 = L.getD j 0 := by
                have h1 := hmdr.out
                rw [drop_getD (by rw [hown.out.1]; exact hjt), drop_getD (l := L) (by rw [HLL.out]; exact hjt)] at h1
                exact (List.cons.inj h1).1
              obtain ⟨d, hd1⟩ : ∃ d, M.getD j 0 = d := ⟨_, rfl⟩
              rw [hd1] at hcell hdd hLd
              have HLd := Lib.hid hLd
              have hp9 := Nat.mul_le_mul_left sN (show d ≤ 4294967295 by omega)
              obtain ⟨p, hp⟩ : ∃ p, sN * d = p := ⟨_, rfl⟩
              rw [hp] at hp9
              have hpi : (sN : Int) * (d : Int) = (p : Int) := by rw [← hp]; exact (Int.natCast_mul sN d).symm
              obtain ⟨q, hq⟩ : ∃ q, cj + p = q := ⟨_, rfl⟩
              have hqi : (cj : Int) + (p : Int) = (q : Int) := by omega
              have hq9 : q < 18446744073709551616 := by omega
              have hp19 : p < 18446744073709551616 := by omega
              have hq2 : q / 4294967296 < sN := by omega
              have hset := hown.out.set j (q % 4294967296)
              rw [show ((q % 4294967296 : Nat) : Int) = (q : Int) % 4294967296 by omega] at hset
              have HSET := Lib.hid hset
              have HNEW : Hid (valB 4294967296 ((M.set j (q % 4294967296)).take (j + 1)) + 4294967296 ^ (j + 1) * (q / 4294967296) = cN + sN * valB 4294967296 (L.take (j + 1))) := by
                have h1 := hI.out
                show _ = _
                rw [take_set_succ M _ (by rw [hown.out.1]; exact hjt), valB_snoc, List.length_take, Nat.min_eq_left (by rw [hown.out.1]; omega), valB_take_succ' _ L, ← HLd.out, Nat.mul_add, Nat.mul_left_comm sN, hp, Nat.pow_succ, Nat.mul_assoc, Nat.add_assoc, ← Nat.mul_add, mod_add_div', ← hq, Nat.mul_add]
                omega
              have hj0 : (0 : Int) ≤ (j : Int) ∧ (j : Int) < (n : Int) := by omega
              obtain ⟨hj0, hj1⟩ := hj0
              have HJ : Hid ((M.set j (q % 4294967296)).drop (j + 1) = L.drop (j + 1)) := by
                have h1 := hmdr.out
                rw [drop_getD (by rw [hown.out.1]; exact hjt), drop_getD (l := L) (by rw [HLL.out]; exact hjt)] at h1
                show _ = _
                rw [List.drop_set_of_lt (by omega)]
                exact (List.cons.inj h1).2
              clear hd1 hp hq hset hLd hp9
              go_wp2_with fail
              go_roundw
              case rel => exact ⟨j + 1, q / 4294967296, _, by omega, by go_num, val_int (by omega), hq2, hmd.out.set (Nat.mod_lt _ (by omega)) j, HJ, HNEW, HSET, hw.out.setCell hgb _⟩
              case measure => simp [intOf] <;> omega
            · obtain rfl : j = n := by omega
              have HM : Hid (valB 4294967296 M + 4294967296 ^ j * cj = decV (s.data.toList.take (s.size - (gk - i)))) := by
                have h1 := hI.out
                rw [List.take_of_length_le (by rw [hown.out.1]; exact Nat.le_refl _), List.take_of_length_le (l := L) (by rw [HLL.out]; exact Nat.le_refl _), HV2.out] at h1
                exact h1
              have HVM : Hid (valB 4294967296 L ≤ valB 4294967296 M + 4294967296 ^ j * cj) := by
                show _ ≤ _
                rw [HM.out, ← HV2.out]
                have := Nat.mul_le_mul_right (valB 4294967296 L) hcs1
                omega
              have hgi : gk - i < gk := by have := HTS.out; omega
              have hgs : gk - i ≤ s.size := by omega
              have hc9 : cj < 4294967296 := by omega
              by_cases hc0 : 0 < cj
              · have HCAN : Hid (CanN 4294967296 (M ++ [cj])) := CanN.snoc hmd.out hc9 (by omega)
                have HVV : Hid (valB 4294967296 (M ++ [cj]) = decV (s.data.toList.take (s.size - (gk - i)))) := by
                  show _ = _
                  rw [valB_snoc, hown.out.1]; exact HM.out
                have hb9 : w.heap.size ≤ wr.heap.size := hw.out.size
                have hng9 : j + 1 + (gk - i) ≤ s.size := by omega
                go_wp2_with (at_builtin; refine wpList_push_num rfl (.tmp 57) (.tmp 60) 41 73 .u32 4 rfl Tryd.underlying41 u32_info w.heap.size A j c M cj _ rfl _ rfl rfl rfl hown.out (by omega) (by omega) hb9 ?_; intro g cap w2 h1 h2 _)
                go_roundg (gk - i)
                case measure => exact hgi
                case rel => exact ⟨u, _, j + 1, _, M ++ [cj], rfl, by go_num, HT2.out.2, hgs, hng9, Lib.hid HT2.out.1, h1, HCAN, HVV, Lib.hid (hw.out.trans h2.out)⟩
              · obtain rfl : cj = 0 := by omega
                have HCAN : Hid (CanN 4294967296 M) := CanN.of_le (by omega) hcan.out hmd.out (by rw [hown.out.1, HLL.out]) (by have := HVM.out; omega)
                have HVV : Hid (valB 4294967296 M = decV (s.data.toList.take (s.size - (gk - i)))) := by
                  have := HM.out
                  show _ = _
                  omega
                go_wp2_with fail
                go_roundg (gk - i)
                case measure => exact hgi
                case rel => exact ⟨u, A, j, c, M, rfl, rfl, HT2.out.2, hgs, by omega, Lib.hid HT2.out.1, hown, HCAN, HVV, hw⟩
    · obtain rfl : gk = 0 := by omega
      have HF : Hid (valB 4294967296 L = decV s.data.toList) := by
        show _ = _
        rw [hval.out, Nat.sub_zero, List.take_of_length_le (by rw [HL.out]; exact Nat.le_refl _)]
      go_wp2_with fail
      go_ret
      exact ⟨_, _, _, rfl, by rw [← HF.out]; exact hown.out.num hcan.out, by omega, hw.out⟩
end Go.Proofs.YtcjdmffflepplaaDoor
