/- num: natText, a number read from its digits. -/
import Derived.Test.YtkmcohnhanphdaaGreatDoorYc
import Derived.Test.YtkmcohnhanphdaaGreatDoorYb
import Derived.Deep.LoopGhost
import Derived.Lib.IndexBytes
import Derived.Deep.DeepCutAuto
import Derived.Test.YtkmcohnhanphdaaGreatDoorYa
import Derived.Test.YtkmcohnhanphdaaGreatDoorYe
import Derived.Laws.BytesArg
set_option linter.unusedSimpArgs false
set_option linter.unusedVariables false
namespace Go.Proofs.YtkmcohnhanphdaaGreatDoor
open Go.RowKit Go.Dw
theorem len_data (t : ByteArray) : t.data.toList.length = t.size := by show t.data.toList.length = t.data.size; simp
theorem at_getD (t : ByteArray) {i : Nat} (h : i < t.size) : t[i] = t.data.toList.getD i 0 := by
  have h1 : i < t.data.toList.length := by rw [len_data]; exact h
  show t.data[i]'(by simpa using h1) = _
  have h2 : i < t.data.size := by simpa using h1
  simp only [List.getD, Array.getElem?_toList]
  rw [Array.getElem?_eq_getElem h2]
  rfl
theorem getD_mem {l : List UInt8} {i : Nat} (h : i < l.length) : l.getD i 0 ∈ l := by
  have : l.getD i 0 = l[i] := by simp [List.getD, h]
  rw [this]; exact List.getElem_mem h
theorem ext_data (t : ByteArray) (i : Nat) : (t.extract i t.size).data.toList = t.data.toList.drop i := Lib.extract_to_end t i
set_option maxRecDepth 100000 in
set_option maxHeartbeats 4000000 in
theorem NATTEXT_any (s : ByteArray) (hd : Hid (AllDig s.data.toList)) (hs : s.size ≤ 1000000) (w : World) :
    Calls Tryz.prog 115 #[.string s] w (OutN w (decV s.data.toList) s.size) := by
  have hl : s.data.toList.length = s.size := by show s.data.toList.length = s.data.size; simp
  have HL := Lib.hid hl
  clear hl
  go_enter Tryz.func115, Tryz.ntmps115
  go_wp2_with fail
  go_loopg [0, 3] s.size (fun g s0 s3 wr => ∃ (t : ByteArray) (A : Option Addr) (n c : Nat) (L : List Nat), s0 = .string t ∧ s3 = .slice A n c ∧ t.size = g ∧ g ≤ s.size ∧ n + g ≤ s.size ∧ Hid (t.data.toList = s.data.toList.drop (s.size - g)) ∧ Hid (OwnN .u32 164 wr w.heap.size A n c L) ∧ Hid (CanN 4294967296 L) ∧ Hid (valB 4294967296 L = decV (s.data.toList.take (s.size - g))) ∧ Hid (Below w.heap.size w wr))
  case atStart => exact ⟨s, none, 0, 0, [], rfl, rfl, rfl, Nat.le_refl _, by omega, by show _ = _; rw [Nat.sub_self, List.drop_zero], OwnN.nil _ _ _ _, CanN.nil _, by show _ = _; rw [Nat.sub_self, List.take_zero]; rfl, Below.refl _ _⟩
  case round =>
    obtain ⟨t, A, n, c, L, rfl, rfl, hts, hg, hng, htl, hown, hcan, hval, hw⟩ := hrel
    by_cases h0 : 0 < gk
    · have HTS := Lib.hid hts
      have hts0 : 0 < t.size := by omega
      have hts1 : t.size ≤ 1000000 := by omega
      clear hts
      obtain ⟨k, hk⟩ : ∃ k, min 9 t.size = k := ⟨_, rfl⟩
      have hk1 : k ≤ t.size := by omega
      have hk9 : k ≤ 9 := by omega
      have hk0 : 0 < k := by omega
      have HK := Lib.hid hk
      clear hk
      go_upto_region 3 with (fail)
      go_cut [4] (fun v wx => v = .int .i64 (k : Int) ∧ wx = wr)
      case first =>
        go_wp2_with fail
        all_goals
          go_meet
          refine ⟨val_int ?_, rfl⟩
          have := HK.out
          omega
      obtain ⟨rfl, rfl⟩ := hcut
      go_wp2_with fail
      go_loop [5, 6, 16] (fun s5 s6 s16 => ∃ i cN sN : Nat, i ≤ k ∧ s16 = .int .i64 i ∧ s5 = .int .u64 cN ∧ s6 = .int .u64 sN ∧ cN < sN ∧ sN ≤ 1000000000 ∧ Hid (cN = decV (t.data.toList.take i)) ∧ Hid (sN = 10 ^ i)) (fun _ _ i => k - (intOf i).toNat)
      case atStart => exact ⟨0, 0, 1, Nat.zero_le _, rfl, rfl, rfl, by omega, by omega, rfl, rfl⟩
      case round =>
        obtain ⟨i, cN, sN, hi, rfl, rfl, rfl, hcs, hsN, HC, HS⟩ := hrel
        by_cases hlt : i < k
        · have hit : i < t.size := by omega
          go_wp2_with fail
          have hby := at_getD t hit
          have hdg : 48 ≤ t[i].toNat ∧ t[i].toNat ≤ 57 := by
            rw [hby]
            refine hd.out _ ?_
            have h1 : t.data.toList.getD i 0 ∈ t.data.toList := getD_mem (by rw [len_data]; exact hit)
            have h2 : t.data.toList.getD i 0 ∈ s.data.toList.drop (s.size - gk) := by rw [← htl.out]; exact h1
            exact List.mem_of_mem_drop h2
          have hpw : 10 ^ (i + 1) ≤ 10 ^ 9 := Nat.pow_le_pow_right (by omega) (by omega)
          have HSN : 10 ^ (i + 1) = 10 * sN := by rw [Nat.pow_succ, HS.out, Nat.mul_comm]
          have HCN := decV_take_succ (l := t.data.toList) (i := i) (by rw [len_data]; exact hit)
          rw [← hby] at HCN
          go_round
          case rel =>
            refine ⟨i + 1, 10 * cN + (t[i].toNat - 48), 10 * sN, by omega, by go_num, val_int (by omega), val_int (by omega), by omega, by omega, ?_, HSN.symm⟩
            show _ = _
            rw [HCN, HC.out]
          case measure => simp [intOf] <;> omega
        · obtain rfl : i = k := by omega
          have hcs1 : (1 : Nat) ≤ sN := by omega
          obtain ⟨W, rfl⟩ : ∃ W : World, W = wc := ⟨_, rfl⟩
          have hn9 : n ≤ 1000000 := by omega
          have HT2 : Hid ((t.extract i t.size).data.toList = s.data.toList.drop (s.size - (gk - i)) ∧ (t.extract i t.size).size = gk - i) := by
            have e1 : (t.extract i t.size).data.toList = t.data.toList.drop i := ext_data t i
            refine ⟨?_, ?_⟩
            · rw [e1, htl.out, List.drop_drop]
              congr 1
              have := HTS.out
              omega
            · have := congrArg List.length e1
              rw [len_data, List.length_drop, len_data] at this
              rw [this, HTS.out]
          have HV2 : Hid (cN + sN * valB 4294967296 L = decV (s.data.toList.take (s.size - (gk - i)))) := by
            have e1 : s.size - (gk - i) = (s.size - gk) + i := by have := HTS.out; omega
            show _ = _
            rw [e1, List.take_add, decV_append, ← htl.out, HC.out, HS.out, hval.out, List.length_take, len_data, Nat.min_eq_left hk1]
            omega
          clear HC HS htl hval HK
          obtain ⟨u, hu⟩ : ∃ u, t.extract i t.size = u := ⟨_, rfl⟩
          rw [hu] at HT2
          go_wp2_with fail
          have HU := Lib.hid hu
          clear hu
          go_loopw [5, 35] (fun s5 s35 wi => ∃ (j cj : Nat) (M : List Nat), j ≤ n ∧ s35 = .int .i64 j ∧ s5 = .int .u64 cj ∧ cj < sN ∧ Hid (DigN 4294967296 M) ∧ Hid (M.drop j = L.drop j) ∧ Hid (valB 4294967296 (M.take j) + 4294967296 ^ j * cj = cN + sN * valB 4294967296 (L.take j)) ∧ Hid (OwnN .u32 164 wi w.heap.size A n c M) ∧ Hid (Below w.heap.size w wi)) (fun _ j _ => n - (intOf j).toNat)
          case atStart => exact ⟨0, cN, L, Nat.zero_le _, rfl, rfl, hcs, hcan.out.1, rfl, by show _ = _; rw [List.take_zero, Nat.pow_zero, Nat.one_mul, show valB 4294967296 [] = 0 from rfl, Nat.mul_zero, Nat.zero_add, Nat.add_zero], hown, hw⟩
          case round =>
            have HLL := Lib.hid hown.out.1
            clear hown hw
            obtain ⟨j, cj, M, hj, rfl, rfl, hcj, hmd, hmdr, hI, hown, hw⟩ := hrel
            have hfm := hown.out.form
            obtain ⟨hf1, hf2⟩ := hfm
            unfold maxLen at hf2
            by_cases hjt : j < n
            · obtain ⟨g, rfl, hgb, hgw⟩ := hown.out.addr (by omega)
              have hcell := hown.out.cell hjt
              have hfr := hown.out.frozen j
              have hdd := hmd.out.get (by omega) j
              have hLd : M.getD j 0 = L.getD j 0 := by
                have h1 := hmdr.out
                rw [drop_getD (by rw [hown.out.1]; exact hjt), drop_getD (l := L) (by rw [HLL.out]; exact hjt)] at h1
                exact (List.cons.inj h1).1
              obtain ⟨d, hd1⟩ : ∃ d, M.getD j 0 = d := ⟨_, rfl⟩
              rw [hd1] at hcell hdd hLd
              have HLd := Lib.hid hLd
              have hp9 := Nat.mul_le_mul_left sN (show d ≤ 4294967295 by omega)
              obtain ⟨p, hp⟩ : ∃ p, sN * d = p := ⟨_, rfl⟩
              rw [hp] at hp9
              have hpi : (sN : Int) * (d : Int) = (p : Int) := by rw [← hp]; exact (Int.natCast_mul sN d).symm
              obtain ⟨q, hq⟩ : ∃ q, cj + p = q := ⟨_, rfl⟩
              have hqi : (cj : Int) + (p : Int) = (q : Int) := by omega
              have hq9 : q < 18446744073709551616 := by omega
              have hp19 : p < 18446744073709551616 := by omega
              have hq2 : q / 4294967296 < sN := by omega
              have hset := hown.out.set j (q % 4294967296)
              rw [show ((q % 4294967296 : Nat) : Int) = (q : Int) % 4294967296 by omega] at hset
              have HSET := Lib.hid hset
              have HNEW : Hid (valB 4294967296 ((M.set j (q % 4294967296)).take (j + 1)) + 4294967296 ^ (j + 1) * (q / 4294967296) = cN + sN * valB 4294967296 (L.take (j + 1))) := by
                have h1 := hI.out
                show _ = _
                rw [take_set_succ M _ (by rw [hown.out.1]; exact hjt), valB_snoc, List.length_take, Nat.min_eq_left (by rw [hown.out.1]; omega), valB_take_succ' _ L, ← HLd.out, Nat.mul_add, Nat.mul_left_comm sN, hp, Nat.pow_succ, Nat.mul_assoc, Nat.add_assoc, ← Nat.mul_add, mod_add_div', ← hq, Nat.mul_add]
                omega
              have hj0 : (0 : Int) ≤ (j : Int) ∧ (j : Int) < (n : Int) := by omega
              obtain ⟨hj0, hj1⟩ := hj0
              have HJ : Hid ((M.set j (q % 4294967296)).drop (j + 1) = L.drop (j + 1)) := by
                have h1 := hmdr.out
                rw [drop_getD (by rw [hown.out.1]; exact hjt), drop_getD (l := L) (by rw [HLL.out]; exact hjt)] at h1
                show _ = _
                rw [List.drop_set_of_lt (by omega)]
                exact (List.cons.inj h1).2
              clear hd1 hp hq hset hLd hp9
              go_wp2_with fail
              go_roundw
              case rel => exact ⟨j + 1, q / 4294967296, _, by omega, by go_num, val_int (by omega), hq2, hmd.out.set (Nat.mod_lt _ (by omega)) j, HJ, HNEW, HSET, hw.out.setCell hgb _⟩
              case measure => simp [intOf] <;> omega
            · obtain rfl : j = n := by omega
              have HM : Hid (valB 4294967296 M + 4294967296 ^ j * cj = decV (s.data.toList.take (s.size - (gk - i)))) := by
                have h1 := hI.out
                rw [List.take_of_length_le (by rw [hown.out.1]; exact Nat.le_refl _), List.take_of_length_le (l := L) (by rw [HLL.out]; exact Nat.le_refl _), HV2.out] at h1
                exact h1
              have HVM : Hid (valB 4294967296 L ≤ valB 4294967296 M + 4294967296 ^ j * cj) := by
                show _ ≤ _
                rw [HM.out, ← HV2.out]
                have := Nat.mul_le_mul_right (valB 4294967296 L) hcs1
                omega
              have hgi : gk - i < gk := by have := HTS.out; omega
              have hgs : gk - i ≤ s.size := by omega
              have hc9 : cj < 4294967296 := by omega
              by_cases hc0 : 0 < cj
              · have HCAN : Hid (CanN 4294967296 (M ++ [cj])) := CanN.snoc hmd.out hc9 (by omega)
                have HVV : Hid (valB 4294967296 (M ++ [cj]) = decV (s.data.toList.take (s.size - (gk - i)))) := by
                  show _ = _
                  rw [valB_snoc, hown.out.1]; exact HM.out
                have hb9 : w.heap.size ≤ wr.heap.size := hw.out.size
                have hng9 : j + 1 + (gk - i) ≤ s.size := by omega
                go_wp2_with (at_builtin; refine wpList_push_num rfl (.tmp 57) (.tmp 60) 80 164 .u32 4 rfl Tryz.underlying80 u32_info w.heap.size A j c M cj _ rfl _ rfl rfl rfl hown.out (by omega) (by omega) hb9 ?_; intro g cap w2 h1 h2 _)
                go_roundg (gk - i)
                case measure => exact hgi
                case rel => exact ⟨u, _, j + 1, _, M ++ [cj], rfl, by go_num, HT2.out.2, hgs, hng9, Lib.hid HT2.out.1, h1, HCAN, HVV, Lib.hid (hw.out.trans h2.out)⟩
              · obtain rfl : cj = 0 := by omega
                have HCAN : Hid (CanN 4294967296 M) := CanN.of_le (by omega) hcan.out hmd.out (by rw [hown.out.1, HLL.out]) (by have := HVM.out; omega)
                have HVV : Hid (valB 4294967296 M = decV (s.data.toList.take (s.size - (gk - i)))) := by
                  have := HM.out
                  show _ = _
                  omega
                go_wp2_with fail
                go_roundg (gk - i)
                case measure => exact hgi
                case rel => exact ⟨u, A, j, c, M, rfl, rfl, HT2.out.2, hgs, by omega, Lib.hid HT2.out.1, hown, HCAN, HVV, hw⟩
    · obtain rfl : gk = 0 := by omega
      have HF : Hid (valB 4294967296 L = decV s.data.toList) := by
        show _ = _
        rw [hval.out, Nat.sub_zero, List.take_of_length_le (by rw [HL.out]; exact Nat.le_refl _)]
      go_wp2_with fail
      go_ret
      exact ⟨_, _, _, rfl, by rw [← HF.out]; exact hown.out.num hcan.out, by omega, hw.out⟩
end Go.Proofs.YtkmcohnhanphdaaGreatDoor
/- num.Nat: text, the digits of a number. -/
namespace Go.Proofs.YtkmcohnhanphdaaGreatDoor
open Go.RowKit Go.Dw
theorem byte1_info : (Tryz.prog.info? 5).map (fun i => (i.zero, i.size, i.bytes)) = some (some (.int .u8 0), 1, 1) := by kernel_rfl
def asc (L : List Nat) : List Nat := L.map (48 + ·)
theorem asc_snoc (L : List Nat) (d : Nat) : asc (L ++ [d]) = asc L ++ [48 + d] := by simp [asc]
theorem asc_length (L : List Nat) : (asc L).length = L.length := by simp [asc]
theorem text_step {u m k X : Nat} {L : List Nat} (hk : k < 9) (hm : m < 10 ^ (9 - k)) (hI : u = valB 10 L + 10 ^ L.length * (m + 10 ^ (9 - k) * X)) :
    m / 10 < 10 ^ (9 - (k + 1)) ∧ u = valB 10 (L ++ [m % 10]) + 10 ^ (L ++ [m % 10]).length * (m / 10 + 10 ^ (9 - (k + 1)) * X) := by
  have e : 9 - k = (9 - (k + 1)) + 1 := by omega
  rw [e, Nat.pow_succ] at hm hI
  refine ⟨by omega, ?_⟩
  rw [valB_snoc, List.length_append, List.length_singleton, Nat.pow_succ, hI, Nat.mul_assoc (10 ^ L.length) 10, Nat.add_assoc, ← Nat.mul_add]
  congr 2
  rw [Nat.mul_add, ← Nat.mul_assoc 10, Nat.mul_comm 10 (10 ^ _)]
  omega
def Turn (L M : List Nat) (k : Nat) : Prop := M.length = L.length ∧ ∀ p, p < L.length → M.getD p 0 = if p < k ∨ L.length - k ≤ p then L.getD (L.length - 1 - p) 0 else L.getD p 0
theorem Turn.start (L : List Nat) : Turn L L 0 := ⟨rfl, fun p hp => by rw [if_neg (by omega)]⟩
theorem Turn.step {L M : List Nat} {k : Nat} (h : Turn L M k) (hk : 2 * k + 1 < L.length) : Turn L ((M.set k (L.getD (L.length - 1 - k) 0)).set (L.length - 1 - k) (L.getD k 0)) (k + 1) := by
  refine ⟨by simp [h.1], fun p hp => ?_⟩
  by_cases h1 : p = L.length - 1 - k
  · rw [h1, getDn_set_self (by simp [h.1]; omega), if_pos (by omega)]
    congr 1; omega
  · rw [getDn_set_ne (by omega)]
    by_cases h2 : p = k
    · subst h2
      rw [getDn_set_self (by rw [h.1]; omega), if_pos (by omega)]
    · rw [getDn_set_ne (by omega), h.2 p hp]
      by_cases h3 : p < k ∨ L.length - k ≤ p
      · rw [if_pos h3, if_pos (by omega)]
      · rw [if_neg h3, if_neg (by omega)]
theorem Turn.old {L M : List Nat} {k : Nat} (h : Turn L M k) (hk : 2 * k + 1 < L.length) : M.getD k 0 = L.getD k 0 ∧ M.getD (L.length - 1 - k) 0 = L.getD (L.length - 1 - k) 0 := by
  refine ⟨?_, ?_⟩
  · rw [h.2 k (by omega), if_neg (by omega)]
  · rw [h.2 _ (by omega), if_neg (by omega)]
theorem Turn.done {L M : List Nat} {k : Nat} (h : Turn L M k) (hk : L.length ≤ 2 * k + 1) : M = L.reverse := by
  apply List.ext_getElem (by simp [h.1])
  intro p h1 h2
  have h3 := h.2 p (by rw [← h.1]; exact h1)
  have e1 : M.getD p 0 = M[p] := by simp [List.getD, h1]
  have hp : p < L.length := by rw [← h.1]; exact h1
  rw [List.getElem_reverse]
  rw [e1] at h3
  rw [h3]
  by_cases h4 : p < k ∨ L.length - k ≤ p
  · rw [if_pos h4]
    simp [List.getD, show L.length - 1 - p < L.length by omega]
  · rw [if_neg h4]
    have : p = L.length - 1 - p := by omega
    simp only [List.getD, List.getElem?_eq_getElem hp]
    simp only [Option.getD_some]
    congr 1
set_option maxRecDepth 100000 in
set_option maxHeartbeats 4000000 in
theorem NTEXT_any (A : Option Addr) (n c u : Nat) (hn : n ≤ 1000000) (w : World) (B : Nat) (hB : B ≤ w.heap.size) (hh : Hid (NumAt .u32 164 4294967296 w B A n c u)) :
    Calls Tryz.prog 157 #[.slice A n c] w fun e w' => e = .returned (.string ⟨(Lib.decDigits u).toArray⟩) ∧ Below w.heap.size w w' := by
  by_cases hu : 0 < u
  · have hn0 : 0 < n := (hh.out.pos_iff (by omega)).2 hu
    have hnb : ((n : Int) == 0) = false := by simp; omega
    have HU := Lib.hid hu
    have HUB := Lib.hid hh.out.lt_pow
    go_enter Tryz.func157, Tryz.ntmps157
    go_wp2_with fail
    clear hnb
    go_loopg [0, 3] u (fun X s0 s3 wr => ∃ (A : Option Addr) (m c : Nat) (Ab : Option Addr) (nb cb : Nat) (L : List Nat), s0 = .slice A m c ∧ s3 = .slice Ab nb cb ∧ m ≤ 1000000 ∧ Hid (NumAt .u32 164 4294967296 wr wr.heap.size A m c X) ∧ Hid (OwnN .u8 5 wr w.heap.size Ab nb cb (asc L)) ∧ Hid (DigN 10 L) ∧ Hid (u = valB 10 L + 10 ^ L.length * X) ∧ Hid (X = 0 → L.getLast? ≠ some 0) ∧ Hid (Below w.heap.size w wr))
    case atStart => exact ⟨A, n, c, none, 0, 0, [], rfl, rfl, hn, hh.out.mono hB, OwnN.nil _ _ _ _, DigN.nil _, by show _ = _; rw [show valB 10 [] = 0 from rfl, List.length_nil, Nat.pow_zero, Nat.one_mul, Nat.zero_add], fun h => by have := HU.out; omega, Below.refl _ _⟩
    case round =>
      clear hh hn0 hu
      obtain ⟨A, mm, c, Ab, nb, cb, L, rfl, rfl, hm, hh, hown, hd, hI, hlast, hw⟩ := hrel
      obtain ⟨hfb1, hfb2⟩ := hown.out.form
      unfold maxLen at hfb2
      by_cases hX : 0 < gk
      · have hm0 : 0 < mm := (hh.out.pos_iff (by omega)).2 hX
        go_wp2_with fail
        refine (NDIVW_own A mm c gk 1000000000 (by omega) (by omega) (by omega) _ _ (Nat.le_refl _) hh).mono ?_
        rintro e w1 ⟨g1, n1, A2, n2, c2, rfl, h1, h2, k1, k2, hb1, hg1, hg2⟩
        have H1 := Lib.hid h1
        have H2 := Lib.hid h2
        have HB1 := Lib.hid hb1
        clear h1 h2 hb1
        go_wp2_with fail
        refine (NSMALL_yes A2 n2 c2 (gk % 1000000000) (by omega) _ _ H2).mono ?_
        rintro e w2 ⟨rfl, hb2⟩
        have HB2 := Lib.hid (HB1.out.trans (hb2.mono HB1.out.size))
        have H12 := Lib.hid (H1.out.to hb2 (Nat.le_refl _) hb2.size)
        have hg3 : g1 < w2.heap.size := Nat.lt_of_lt_of_le hg2 hb2.size
        have HG13 := Lib.hid hg3
        clear hb2
        have hown2 := Lib.hid (hown.out.below HB2.out)
        have hw2 := Lib.hid (hw.out.trans (HB2.out.mono hw.out.size))
        have hsz2 : wr.heap.size ≤ w2.heap.size := HB2.out.size
        have hws : w.heap.size ≤ w2.heap.size := hw2.out.size
        have hn1 : 0 < n1 ↔ 0 < gk / 1000000000 := H1.out.pos_iff (by omega)
        have hn19 : n1 ≤ 1000000 := by omega
        have hfar : ∀ g, Ab = some ⟨g, 0, none⟩ → g ≠ g1 := fun g e => by
          have hnb : 0 < nb ∨ nb = 0 := by omega
          rcases hown.out.2.2 with ⟨e2, _⟩ | ⟨g2, cap2, cur, e2, _, hh2, _⟩
          · injection e2 with e2; rw [e2] at e; cases e
          · injection e2 with e2
            rw [e2] at e
            injection e with e
            injection e with e
            have := (Array.getElem?_eq_some_iff.1 hh2).1
            omega
        have HFAR := Lib.hid hfar
        obtain ⟨y, hy⟩ : ∃ y, gk / 1000000000 = y := ⟨_, rfl⟩
        obtain ⟨r, hr⟩ : ∃ y, gk % 1000000000 = y := ⟨_, rfl⟩
        have hr9 : r < 1000000000 := by omega
        have hxr : gk = r + 1000000000 * y := by omega
        rw [hy] at hn1 H12
        have hygk : y < gk := by omega
        have HI2 : Hid (u = valB 10 L + 10 ^ L.length * (r + 10 ^ (9 - 0) * y)) := by show _ = _; rw [hI.out, hxr]
        have HL2 : Hid (y = 0 ∧ r = 0 → L.getLast? ≠ some 0) := fun h => by omega
        rw [hr]
        have HN1 := Lib.hid hn1
        have HYX := Lib.hid hygk
        obtain ⟨W2, rfl⟩ : ∃ W : World, W = w2 := ⟨_, rfl⟩
        clear hown hw hI hlast HB1 HB2 H1 H2 hh hxr hn1 hy hygk hr hfar hg1 hg2 hg3 hsz2
        go_wp2_with fail
        go_loopw [3, 6, 8] (fun s3 s6 s8 wi => ∃ (k m : Nat) (Ab : Option Addr) (nb cb : Nat) (L : List Nat), k ≤ 9 ∧ s8 = .int .i64 k ∧ s6 = .int .u64 m ∧ s3 = .slice Ab nb cb ∧ m < 1000000000 ∧ Hid (m < 10 ^ (9 - k)) ∧ Hid (OwnN .u8 5 wi w.heap.size Ab nb cb (asc L)) ∧ Hid (DigN 10 L) ∧ Hid (u = valB 10 L + 10 ^ L.length * (m + 10 ^ (9 - k) * y)) ∧ Hid (y = 0 ∧ m = 0 → L.getLast? ≠ some 0) ∧ Hid (∀ g, Ab = some ⟨g, 0, none⟩ → g ≠ g1) ∧ Hid (NumAt .u32 164 4294967296 wi wi.heap.size (some ⟨g1, 0, none⟩) n1 mm y) ∧ Hid (g1 < wi.heap.size) ∧ Hid (Below w.heap.size w wi)) (fun _ _ i _ => 9 - (intOf i).toNat)
        case atStart => exact ⟨0, r, Ab, nb, cb, L, Nat.zero_le _, rfl, rfl, rfl, hr9, (show _ < _ by omega), hown2, hd, HI2, HL2, HFAR, H12, HG13, hw2⟩
        case round =>
          clear hown2 HI2 HL2 HFAR H12 HG13 hw2 hr9 hd hfb1 hfb2
          obtain ⟨k, m, Ab, nb, cb, L, hk, rfl, rfl, rfl, hm9, hm, hown, hd, hI, hlast, hfar, hnum, hg13, hw⟩ := hrel
          by_cases hcond : k < 9 ∧ (0 < n1 ∨ 0 < m)
          · obtain ⟨hk9, hnm⟩ := hcond
            have hnbl : L.length = nb := by rw [← asc_length]; exact hown.out.1
            have hnb9 : nb ≤ 1000000000000 := by
              have h1 : 10 ^ L.length ≤ u := by
                have h2 : 1 ≤ m + 10 ^ (9 - k) * y := by
                  rcases hnm with h | h
                  · have h3 := HN1.out.1 h
                    have h4 := Nat.mul_le_mul (Nat.pow_pos (n := 9 - k) (show 0 < 10 by omega)) h3
                    omega
                  · omega
                have h3 := Nat.mul_le_mul_left (10 ^ L.length) h2
                rw [hI.out]
                omega
              have h2 := ten_pow_lt h1 HUB.out
              omega
            have hst := text_step hk9 hm.out hI.out
            have HST := Lib.hid hst
            have HDD : Hid (DigN 10 (L ++ [m % 10])) := hd.out.snoc (Nat.mod_lt _ (by omega))
            have HLA : Hid (y = 0 ∧ m / 10 = 0 → (L ++ [m % 10]).getLast? ≠ some 0) := fun h => by
              have h1 : ¬ 0 < n1 := fun h9 => by have := HN1.out.1 h9; omega
              have h2 : 0 < m := by omega
              simp
              omega
            have hwsz := hw.out.size
            clear hst hnbl hlast hI hd
            by_cases hn1 : 0 < n1
            · have g1t : decide ((0 : Int) < (n1 : Int)) = true := by simp; omega
              go_wp2_with (at_builtin; refine wpList_push_num rfl (.tmp 41) (.tmp 46) 208 5 .u8 1 rfl Tryz.underlying208 byte1_info w.heap.size Ab nb cb (asc L) (48 + m % 10) _ (by omega) _ rfl rfl rfl hown.out hnb9 (by omega) hwsz ?_; intro g cap w3 p1 p2 p3)
              go_roundw
              case rel =>
                refine ⟨k + 1, m / 10, some ⟨g, 0, none⟩, nb + 1, cap, L ++ [m % 10], by omega, by go_num, rfl, by go_num, by omega, Lib.hid HST.out.1, ?_, HDD, Lib.hid HST.out.2, HLA, ?_, ?_, ?_, Lib.hid (hw.out.trans p2.out)⟩
                · rw [asc_snoc]; exact p1
                · intro g' e9
                  injection e9 with e9
                  injection e9 with e9
                  subst e9
                  rcases p3.out.1 with h | h
                  · exact hfar.out _ h
                  · have := hg13.out; omega
                · exact (hnum.out.of_block (p3.out.2 g1 hg13.out (fun g' e h => hfar.out g' e h.symm))).mono p2.out.size
                · exact Nat.lt_of_lt_of_le hg13.out p2.out.size
              case measure => simp [intOf] <;> omega
            · have g1f : decide ((0 : Int) < (n1 : Int)) = false := by simp; omega
              have hm0 : 0 < m := by omega
              have g2t : decide ((0 : Int) < (m : Int)) = true := by simp; omega
              go_wp2_with (at_builtin; refine wpList_push_num rfl (.tmp 41) (.tmp 46) 208 5 .u8 1 rfl Tryz.underlying208 byte1_info w.heap.size Ab nb cb (asc L) (48 + m % 10) _ (by omega) _ rfl rfl rfl hown.out hnb9 (by omega) hwsz ?_; intro g cap w3 p1 p2 p3)
              go_roundw
              case rel =>
                refine ⟨k + 1, m / 10, some ⟨g, 0, none⟩, nb + 1, cap, L ++ [m % 10], by omega, by go_num, rfl, by go_num, by omega, Lib.hid HST.out.1, ?_, HDD, Lib.hid HST.out.2, HLA, ?_, ?_, ?_, Lib.hid (hw.out.trans p2.out)⟩
                · rw [asc_snoc]; exact p1
                · intro g' e9
                  injection e9 with e9
                  injection e9 with e9
                  subst e9
                  rcases p3.out.1 with h | h
                  · exact hfar.out _ h
                  · have := hg13.out; omega
                · exact (hnum.out.of_block (p3.out.2 g1 hg13.out (fun g' e h => hfar.out g' e h.symm))).mono p2.out.size
                · exact Nat.lt_of_lt_of_le hg13.out p2.out.size
              case measure => simp [intOf] <;> omega
          · have HE : Hid (u = valB 10 L + 10 ^ L.length * y ∧ (y = 0 → L.getLast? ≠ some 0)) := by
              rcases Nat.lt_or_ge k 9 with h9 | h9
              · have h1 : ¬ 0 < n1 := fun h => hcond ⟨h9, .inl h⟩
                have h2 : m = 0 := by
                  refine Nat.eq_zero_of_not_pos fun h => hcond ⟨h9, .inr h⟩
                have h3 : y = 0 := Nat.eq_zero_of_not_pos fun h => h1 (HN1.out.2 h)
                refine ⟨?_, fun _ => hlast.out ⟨h3, h2⟩⟩
                have := hI.out
                rw [h2, h3, Nat.mul_zero, Nat.zero_add] at this
                rw [h3]
                exact this
              · obtain rfl : k = 9 := by omega
                have h1 := hm.out
                rw [Nat.sub_self, Nat.pow_zero] at h1
                have h2 : m = 0 := by omega
                have h3 := hI.out
                rw [h2, Nat.sub_self, Nat.pow_zero, Nat.one_mul, Nat.zero_add] at h3
                exact ⟨h3, fun h => hlast.out ⟨h, h2⟩⟩
            clear hI hlast hm
            by_cases hk9 : k < 9
            · have h1 : n1 = 0 := Nat.eq_zero_of_not_pos fun h => hcond ⟨hk9, .inl h⟩
              have h2 : m = 0 := Nat.eq_zero_of_not_pos fun h => hcond ⟨hk9, .inr h⟩
              subst h1 h2
              go_wp2_with fail
              go_roundg y
              case measure => exact HYX.out
              case rel => exact ⟨_, 0, _, Ab, nb, cb, L, rfl, rfl, by omega, hnum, hown, hd, Lib.hid HE.out.1, Lib.hid HE.out.2, hw⟩
            · obtain rfl : k = 9 := by omega
              go_wp2_with fail
              go_roundg y
              case measure => exact HYX.out
              case rel => exact ⟨_, n1, _, Ab, nb, cb, L, rfl, rfl, hn19, hnum, hown, hd, Lib.hid HE.out.1, Lib.hid HE.out.2, hw⟩
      · obtain rfl : gk = 0 := by omega
        have hm0 : mm = 0 := by
          refine Nat.eq_zero_of_not_pos fun h => ?_
          have := (hh.out.pos_iff (by omega)).1 h
          omega
        subst hm0
        have hval : u = valB 10 L := by have := hI.out; rw [Nat.mul_zero] at this; exact this
        have hcan : CanN 10 L := ⟨hd.out, hlast.out rfl⟩
        have HDEC := Lib.hid (decDigits_of hcan hval.symm HU.out)
        have hnbl : L.length = nb := by rw [← asc_length]; exact hown.out.1
        have hnb0 : 0 < nb := by
          rw [← hnbl]
          refine List.length_pos_iff.2 fun e => ?_
          rw [e] at hval
          have := HU.out
          simp [valB] at hval
          omega
        have HPL : Hid ((asc L).length = nb) := hown.out.1
        obtain ⟨P, hP⟩ : ∃ P, asc L = P := ⟨_, rfl⟩
        rw [hP] at hown HPL
        have HP := Lib.hid hP
        obtain ⟨g, rfl, hgb, hgw⟩ := hown.out.addr hnb0
        have hnb9 : nb ≤ 9223372036854775807 := by omega
        clear hP hval hcan hnbl hI hlast hh hd
        obtain ⟨W, rfl⟩ : ∃ W : World, W = wr := ⟨_, rfl⟩
        go_wp2_with fail
        go_loopw [9, 10] (fun s9 s10 wi => ∃ (k : Nat) (z : Int) (M : List Nat), 2 * k ≤ nb ∧ s9 = .int .i64 k ∧ s10 = .int .i64 z ∧ Hid (z = (nb : Int) - 1 - k) ∧ Hid (Turn P M k) ∧ Hid (OwnN .u8 5 wi w.heap.size (some ⟨g, 0, none⟩) nb cb M) ∧ Hid (Below w.heap.size w wi)) (fun s9 _ _ => nb - (intOf s9).toNat)
        case atStart => exact ⟨0, _, P, by omega, rfl, rfl, by show _ = _; omega, Turn.start P, hown, hw⟩
        case round =>
          clear hown hw
          obtain ⟨k, z, M, hk, rfl, rfl, hz, hT, hown, hw⟩ := hrel
          by_cases hlt : 2 * k + 1 < nb
          · obtain ⟨j, hj⟩ : ∃ j, nb - 1 - k = j := ⟨_, rfl⟩
            obtain rfl : z = (j : Int) := by have := hz.out; omega
            have hold := hT.out.old (by rw [HPL.out]; exact hlt)
            have hnew := hT.out.step (by rw [HPL.out]; exact hlt)
            rw [HPL.out, hj] at hold hnew
            have ck := hown.out.cell (i := k) (by omega)
            have cj := hown.out.cell (i := j) (by omega)
            rw [hold.1] at ck
            rw [hold.2] at cj
            obtain ⟨a, ha⟩ : ∃ a, P.getD k 0 = a := ⟨_, rfl⟩
            obtain ⟨b, hb⟩ : ∃ a, P.getD j 0 = a := ⟨_, rfl⟩
            rw [ha] at ck hnew
            rw [hb] at cj hnew
            have HNEW := Lib.hid hnew
            have hset := (hown.out.set k b).set j a
            have HSET := Lib.hid hset
            have fk := hown.out.frozen k
            have fj := hown.out.frozen j
            have hjk : k < j := by omega
            have hkj : (k : Int) < (j : Int) := by omega
            have hk0 : (0 : Int) ≤ (k : Int) := by omega
            have hj0 : (0 : Int) ≤ (j : Int) := by omega
            have hkn : (k : Int) < (nb : Int) := by omega
            have hjn : (j : Int) < (nb : Int) := by omega
            have hne : ¬ k = j := by omega
            have hne2 : ¬ j = k := by omega
            have HJ := Lib.hid hj
            clear hold hnew hset ha hb hj hz
            go_wp2_with fail
            refine wp_region_text 12 (fun x => x.cell? ⟨g, k, none⟩ = some (.int .u8 a) ∧ x.cell? ⟨g, j, none⟩ = some (.int .u8 b)) (by kernel_rfl) (by kernel_rfl) ?_
            have hS : wr.drew.cell? ⟨g, k, none⟩ = some (.int .u8 a) ∧ wr.drew.cell? ⟨g, j, none⟩ = some (.int .u8 b) := ⟨ck, cj⟩
            refine HT.take (i := 0) (oi := _) (v := ?_) rfl (by kernel_rfl) (by kernel_rfl) (by decide) (fun _ _ _ h => h) (Or.inl ⟨by rfl, ?_⟩) hS ?_
            rotate_left
            · intro wz
              go_simp
              try with_reducible rfl
            simp only [zA, zB, zC, Act.put, zD, zE, zF]
            refine HT.take (i := 1) (oi := _) (v := ?_) rfl (by kernel_rfl) (by kernel_rfl) (by decide) (fun _ _ _ h => h) (Or.inl ⟨by rfl, ?_⟩) hS ?_
            rotate_left
            · intro wz
              go_simp
              try with_reducible rfl
            simp only [zA, zB, zC, Act.put, zD, zE, zF]
            refine HT.take (i := 4) (oi := _) (v := ?_) rfl (by kernel_rfl) (by kernel_rfl) (by decide) (fun _ _ _ h => h) (Or.inl ⟨by rfl, ?_⟩) hS ?_
            rotate_left
            · intro wz
              go_simp
              try with_reducible rfl
            simp only [zA, zB, zC, Act.put, zD, zE, zF]
            refine HT.take (i := 5) (oi := _) (v := ?_) rfl (by kernel_rfl) (by kernel_rfl) (by decide) (fun _ _ _ h => h) (Or.inl ⟨by rfl, ?_⟩) hS ?_
            rotate_left
            · intro wz
              go_simp
              try with_reducible rfl
            simp only [zA, zB, zC, Act.put, zD, zE, zF]
            refine HT.take (i := 6) (oi := _) (v := ?_) rfl (by kernel_rfl) (by kernel_rfl) (by decide) (fun _ _ _ h => h) (Or.inl ⟨by rfl, ?_⟩) hS ?_
            rotate_left
            · intro wz
              go_simp
              try with_reducible rfl
            simp only [zA, zB, zC, Act.put, zD, zE, zF]
            refine HT.load (i := 7) (oi := _) (v := ?_) rfl (by kernel_rfl) (by kernel_rfl) (by decide) (fun _ _ _ h => h) (by kernel_rfl) (Or.inl ⟨by rfl, ?_⟩) hS ?_
            rotate_left
            · intro wz hwz
              try dsimp only at hwz
              go_simp
              try with_reducible rfl
            simp only [zA, zB, zC, Act.put, zD, zE, zF]
            refine HT.take (i := 8) (oi := _) (v := ?_) rfl (by kernel_rfl) (by kernel_rfl) (by decide) (fun _ _ _ h => h) (Or.inl ⟨by rfl, ?_⟩) hS ?_
            rotate_left
            · intro wz
              go_simp
              try with_reducible rfl
            simp only [zA, zB, zC, Act.put, zD, zE, zF]
            refine HT.take (i := 9) (oi := _) (v := ?_) rfl (by kernel_rfl) (by kernel_rfl) (by decide) (fun _ _ _ h => h) (Or.inl ⟨by rfl, ?_⟩) hS ?_
            rotate_left
            · intro wz
              go_simp
              try with_reducible rfl
            simp only [zA, zB, zC, Act.put, zD, zE, zF]
            refine HT.take (i := 10) (oi := _) (v := ?_) rfl (by kernel_rfl) (by kernel_rfl) (by decide) (fun _ _ _ h => h) (Or.inl ⟨by rfl, ?_⟩) hS ?_
            rotate_left
            · intro wz
              go_simp
              try with_reducible rfl
            simp only [zA, zB, zC, Act.put, zD, zE, zF]
            refine HT.load (i := 11) (oi := _) (v := ?_) rfl (by kernel_rfl) (by kernel_rfl) (by decide) (fun _ _ _ h => h) (by kernel_rfl) (Or.inl ⟨by rfl, ?_⟩) hS ?_
            rotate_left
            · intro wz hwz
              try dsimp only at hwz
              go_simp
              try with_reducible rfl
            simp only [zA, zB, zC, Act.put, zD, zE, zF]
            refine HT.take (i := 2) (oi := _) (v := ?_) rfl (by kernel_rfl) (by kernel_rfl) (by decide) (fun _ _ _ h => h) (Or.inl ⟨by rfl, ?_⟩) hS ?_
            rotate_left
            · intro wz
              go_simp
              try with_reducible rfl
            simp only [zA, zB, zC, Act.put, zD, zE, zF]
            refine HT.take (i := 3) (oi := _) (v := ?_) rfl (by kernel_rfl) (by kernel_rfl) (by decide) (fun _ _ _ h => h) (Or.inl ⟨by rfl, ?_⟩) hS ?_
            rotate_left
            · intro wz
              go_simp
              try with_reducible rfl
            simp only [zA, zB, zC, Act.put, zD, zE, zF]
            refine HT.done (by kernel_rfl) ?_
            clear hS
            simp only [List.drop_succ_cons, List.drop_zero]
            go_wp2_with fail
            go_roundw
            case rel => exact ⟨k + 1, (j : Int) - 1, _, by omega, by go_num, rfl, by have := HJ.out; show _ = _; omega, HNEW, HSET.out.drew, ((hw.out.setCell hgb _).setCell hgb _).drew⟩
            case measure => simp [intOf] <;> omega
          · have HM := Lib.hid (hT.out.done (by rw [HPL.out]; omega))
            have hdec : decide ((k : Int) < z) = false := by have := hz.out; simp; omega
            have hlm := hown.out.1
            have hcv := run_convert_bytes_arg (P := Tryz.prog) (w := wr) 208 5 Tryz.underlying208 Tryz.underlying5 g 0 nb cb (M.map fun d => ((d : Nat) : Int)) (by simp [hlm]) (fun i hi => by
              have h1 := hown.out.cell hi
              rw [Nat.zero_add, h1]
              simp [List.getD, show i < M.length by omega]) 9 Tryz.underlying9
            have HFIN : Hid (strOfNums (M.map fun d => ((d : Nat) : Int)) = ⟨(Lib.decDigits u).toArray⟩) := by
              show _ = _
              rw [HM.out, ← HP.out, HDEC.out]
              unfold strOfNums asc
              congr 2
              simp
              intro a _
              rw [show ((48 : Int) + (a : Int)).toNat = 48 + a by omega]
              exact UInt8.ofNat_add 48 a
            obtain ⟨fs, hfs⟩ : ∃ fs, strOfNums (M.map fun d => ((d : Nat) : Int)) = fs := ⟨_, rfl⟩
            rw [hfs] at hcv HFIN
            clear hfs hz hlm
            go_wp2_with fail
            go_ret
            exact ⟨by rw [← HFIN.out]; rfl, hw.out⟩
  · obtain rfl : u = 0 := by omega
    have hn0 : n = 0 := by
      refine Nat.eq_zero_of_not_pos fun h => ?_
      have := (hh.out.pos_iff (by omega)).1 h
      omega
    subst hn0
    go_enter Tryz.func157, Tryz.ntmps157
    go_wp2_with fail
    go_ret
    refine ⟨?_, Below.refl _ _⟩
    rw [show Lib.decDigits 0 = [48] by rw [Lib.decDigits]; rfl]
    rfl
end Go.Proofs.YtkmcohnhanphdaaGreatDoor
