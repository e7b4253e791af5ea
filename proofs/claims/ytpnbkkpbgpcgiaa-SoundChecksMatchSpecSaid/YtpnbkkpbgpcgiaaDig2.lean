/- Digest, the reference's. -/
import Derived.Test.YtpnbkkpbgpcgiaaDig1
import Derived.Test.YtpnbkkpbgpcgiaaPush
import Derived.Test.YtpnbkkpbgpcgiaaSpecE
import Derived.Test.YtpnbkkpbgpcgiaaRegion
import Derived.Deep.DeepCutAuto
import Derived.Deep.RegionHeld3
import Derived.Deep.QuietTactic
import Derived.BigQuiet
set_option linter.unusedSimpArgs false
set_option linter.unusedVariables false
namespace Go.Proofs.Ytpnbkkpbgpcgiaa
open Go.RowKit Go.Dw
theorem own_three {w : World} {base : Nat} {a b c : Int} (hb : base ≤ w.heap.size) : (w.alloc (.cells #[.int .i64 a, .int .i64 b, .int .i64 c] 3)).ownsRow base 3 1 (.slice (some ⟨w.heap.size, 0, none⟩) 3 3) 3 ([a, b, c].map (Value.int .i64)) :=
  ⟨by simp, .inr ⟨w.heap.size, 3, #[.int .i64 a, .int .i64 b, .int .i64 c], rfl, hb, heap_alloc_new w _, Nat.le_refl _, by simp only [maxLen]; omega, by simp, by simp⟩⟩
theorem digF_take {h : Int} {l : List Int} {j : Nat} (hj : j < l.length) : digF h (l.take (j + 1)) = digU (digF h (l.take j)) (elOf l j) := by
  rw [take_el hj, digF_snoc]
theorem dgRow_el {H : Int} {k : Nat} (hk : k < 16) : elOf (dgRow H 16) k = digB H k := by
  rw [elOf_lt (by rw [dgRow_length]; exact hk)]
  simp [dgRow]
theorem str_hex (l : List Int) {v : Nat} (hv : v < 16) : strOfNums l ++ (⟨#[48, 49, 50, 51, 52, 53, 54, 55, 56, 57, 97, 98, 99, 100, 101, 102]⟩ : ByteArray).extract v (v + 1) = strOfNums (l ++ [(hexN v : Int)]) := by
  apply ByteArray.ext
  have h : ((⟨#[48, 49, 50, 51, 52, 53, 54, 55, 56, 57, 97, 98, 99, 100, 101, 102]⟩ : ByteArray).extract v (v + 1)).data = #[UInt8.ofNat (hexN v)] := by
    have : ∀ v : Fin 16, ((⟨#[48, 49, 50, 51, 52, 53, 54, 55, 56, 57, 97, 98, 99, 100, 101, 102]⟩ : ByteArray).extract v.1 (v.1 + 1)).data = #[UInt8.ofNat (hexN v.1)] := by decide
    exact this ⟨v, hv⟩
  rw [ByteArray.data_append, h]
  simp [strOfNums]
set_option maxRecDepth 100000 in
set_option maxHeartbeats 4000000 in
theorem RDIGEST_ok (r : Int) (ad : Addr) (n c : Nat) (xss : List (List Int)) (hc : Hid (chkS r xss = 0)) (hok : Hid (OkS r xss)) (w : World) (B : Nat) (hB : B ≤ w.heap.size) (hh : Hid (RowsAt w B (some ad) n xss)) :
    Calls Try.prog 42 #[.agg #[.int .i64 r, .slice (some ad) n c]] w fun e w' => e = .returned (.tuple #[.string (digS r n xss), .int .i64 0]) ∧ Below w.heap.size w w' := by
  have hl := Lib.hid hh.out.1
  have hn16 : n ≤ 16 := by have := hok.out.few; have := hl.out; omega
  have hn : 0 < n := by have := hok.out.some; have := hl.out; omega
  have hm := hok.out.long
  have hq : (chkS r xss != 0) = false := by rw [hc.out]; rfl
  go_enter Try.func42, Try.ntmps42
  go_wp2_with fail
  refine calls_later (w.heap.size + 1) ?_
  intro W hW hsW
  obtain ⟨hcW, hfW⟩ := bcell hW
  simp only [World.size_alloc] at hsW
  have hbW : Below w.heap.size w W := ((Below.refl _ w).alloc (Nat.le_refl _) _).trans (hW.mono (by omega))
  have HRx : Hid (RowsAt W B (some ad) n xss) := hh.out.below hbW hB
  refine (RCHECK_any r (some ad) n c xss _ B (by omega) (hh.out.below hbW hB)).mono ?_
  rintro e w1 ⟨rfl, hb1⟩
  have hS1 : Below (w.heap.size + 1) W w1 := hb1.mono hsW
  have hz1 := pcell hS1
  clear hb1
  go_upto_region 4 with fail
  have hS : Below (w.heap.size + 1) W w1.drew ∧ (∀ z : Addr, z.block < w.heap.size + 1 → w1.drew.cell? z = W.cell? z) := ⟨hS1.drew, pcell hS1.drew⟩
  clear hz1
  refine wp_region_head 8 (fun w' => Below (w.heap.size + 1) W w' ∧ (∀ z : Addr, z.block < w.heap.size + 1 → w'.cell? z = W.cell? z)) (by kernel_rfl) (by kernel_rfl) ?_
  refine HL.take (i := 0) (oi := _) (v := ?_) rfl (by kernel_rfl) (by kernel_rfl) (by decide) (fun _ _ _ h => h) (Or.inl ⟨by rfl, ?_⟩) hS ?_
  rotate_left
  · intro wz hwz
    try dsimp only at hwz
    go_simp
    try with_reducible rfl
  simp only [Act.put, List.setIfInBounds_toArray, List.set_cons_zero, List.set_cons_succ]
  refine HL.take (i := 1) (oi := _) (v := ?_) rfl (by kernel_rfl) (by kernel_rfl) (by decide) (fun _ _ _ h => h) (Or.inl ⟨by rfl, ?_⟩) hS ?_
  rotate_left
  · intro wz hwz
    try dsimp only at hwz
    go_simp
    try with_reducible rfl
  simp only [Act.put, List.setIfInBounds_toArray, List.set_cons_zero, List.set_cons_succ]
  refine HL.take (i := 2) (oi := _) (v := ?_) rfl (by kernel_rfl) (by kernel_rfl) (by decide) (fun _ _ _ h => h) (Or.inl ⟨by rfl, ?_⟩) hS ?_
  rotate_left
  · intro wz hwz
    try dsimp only at hwz
    go_simp
    try with_reducible rfl
  simp only [Act.put, List.setIfInBounds_toArray, List.set_cons_zero, List.set_cons_succ]
  refine HL.take (i := 3) (oi := _) (v := ?_) rfl (by kernel_rfl) (by kernel_rfl) (by decide) (fun _ _ _ h => h) (Or.inl ⟨by rfl, ?_⟩) hS ?_
  rotate_left
  · intro wz hwz
    try dsimp only at hwz
    go_simp
    try with_reducible rfl
  simp only [Act.put, List.setIfInBounds_toArray, List.set_cons_zero, List.set_cons_succ]
  refine HL.take (i := 4) (oi := _) (v := ?_) rfl (by kernel_rfl) (by kernel_rfl) (by decide) (fun _ _ _ h => h) (Or.inl ⟨by rfl, ?_⟩) hS ?_
  rotate_left
  · intro wz hwz
    try dsimp only at hwz
    go_simp
    try with_reducible rfl
  simp only [Act.put, List.setIfInBounds_toArray, List.set_cons_zero, List.set_cons_succ]
  refine HL.take (i := 5) (oi := _) (v := ?_) rfl (by kernel_rfl) (by kernel_rfl) (by decide) (fun _ _ _ h => h) (Or.inl ⟨by rfl, ?_⟩) hS ?_
  rotate_left
  · intro wz hwz
    try dsimp only at hwz
    go_simp
    try with_reducible rfl
  simp only [Act.put, List.setIfInBounds_toArray, List.set_cons_zero, List.set_cons_succ]
  refine HL.one (i := 6) (o := _) rfl (by kernel_rfl) (by decide) (by rfl) ?_
  intro K hK
  go_simp
  refine (RLONG_any r (some ad) n c xss _ B (Below.ge hS hsW (by omega)) (HRx.out.below (hS.1.mono (by omega)) (Nat.le_refl _)) hn).mono ?_
  rintro e w2 ⟨rfl, hb2⟩
  have hS' := hS
  clear hS
  have hS2 := Below.next hS'.1 hsW hb2
  have hS : Below (w.heap.size + 1) W w2 ∧ (∀ z : Addr, z.block < w.heap.size + 1 → w2.cell? z = W.cell? z) := ⟨hS2, pcell hS2⟩
  refine hK.out _ _ hS ?_
  try simp only [Act.put, List.setIfInBounds_toArray, List.set_cons_zero, List.set_cons_succ]
  clear hK K hS'
  refine HL.one (i := 7) (o := _) rfl (by kernel_rfl) (by decide) (by rfl) ?_
  intro K hK
  go_simp
  have hs2 : w.heap.size + 1 ≤ w2.heap.size := Nat.le_trans hsW hS2.size
  obtain ⟨w3, hw3⟩ : ∃ w3, w3 = w2.alloc (.cells #[.int .i64 r, .int .i64 n, .int .i64 (len0 xss : Nat)] 3) := ⟨_, rfl⟩
  have hS3 : Below (w.heap.size + 1) W w3 := by rw [hw3]; exact hS2.alloc hs2 _
  have HO3 : Hid (w3.ownsRow (w.heap.size + 1) 3 1 (.slice (some ⟨w2.heap.size, 0, none⟩) 3 3) (digL r xss n (len0 xss) 0 0).length ((digL r xss n (len0 xss) 0 0).map (Value.int .i64))) := by
    show World.ownsRow _ _ _ _ _ _ _
    rw [digL_start, hw3]; exact own_three hs2
  have hS' := hS
  clear hS
  have hS : Below (w.heap.size + 1) W w3 ∧ (∀ z : Addr, z.block < w.heap.size + 1 → w3.cell? z = W.cell? z) := ⟨hS3, pcell hS3⟩
  rw [← hw3]
  clear hw3 hS' hS2
  refine hK.out _ _ hS ?_
  try simp only [Act.put, List.setIfInBounds_toArray, List.set_cons_zero, List.set_cons_succ]
  clear hK K
  refine HL.done (by kernel_rfl) ?_
  simp only [List.drop_succ_cons, List.drop_zero]
  go_simp
  have HS3 := Lib.hid hS.1
  clear hS hS3 hb2 hs2
  go_wp2_with fail
  have H33 : Hid ((digL r xss n (len0 xss) 0 0).length = 3) := by show _ = _; rw [digL_length]; omega
  go_loopw [5, 6] (fun v i wr => ∃ a : Nat, a ≤ len0 xss ∧ i = .int .i64 a ∧ Hid (Below (w.heap.size + 1) W wr) ∧ Hid (wr.ownsRow (w.heap.size + 1) 3 1 v (digL r xss n (len0 xss) a 0).length ((digL r xss n (len0 xss) a 0).map (Value.int .i64)))) (fun _ i _ => len0 xss - (intOf i).toNat)
  case atStart => exact ⟨0, Nat.zero_le _, rfl, HS3.out, HO3.out⟩
  case round =>
    obtain ⟨a, ha, rfl, hS, ho⟩ := hrel
    obtain ⟨A5, c5, rfl, hcc1, hcc2⟩ := own_form ho.out
    have hz := pcell hS.out
    go_wp2_with fail
    refine (RLONG_any r (some ad) n c xss _ B (by have := hS.out.size; omega) (HRx.out.below (hS.out.mono (by omega)) (Nat.le_refl _)) hn).mono ?_
    rintro e w4 ⟨rfl, hb4⟩
    have HS4 := Lib.hid (Below.next hS.out hsW hb4)
    have HO4 := Lib.hid (own_below ho.out hb4)
    clear hz hb4 hS ho
    by_cases hal : a < len0 xss
    · go_wp2_with fail
      go_loopw [5, 7] (fun v i wr => ∃ k : Nat, k ≤ n ∧ i = .int .i64 k ∧ Hid (Below (w.heap.size + 1) W wr) ∧ Hid (wr.ownsRow (w.heap.size + 1) 3 1 v (digL r xss n (len0 xss) a k).length ((digL r xss n (len0 xss) a k).map (Value.int .i64)))) (fun _ i _ => n - (intOf i).toNat)
      case atStart => exact ⟨0, Nat.zero_le _, rfl, HS4.out, HO4.out⟩
      case round =>
        obtain ⟨k, hk, rfl, hS, ho⟩ := hrel
        obtain ⟨A6, c6, rfl, hcd1, hcd2⟩ := own_form ho.out
        have hz := pcell hS.out
        by_cases hlt : k < n
        · have hkx : Hid (k < xss.length) := by show _ < _; have := hl.out; omega
          obtain ⟨A', n', c', hadB, hcell, hn', hc', hi⟩ := hh.out.row hlt
          obtain rfl : n' = len0 xss := hi.1.symm.trans (hok.out.row hkx.out).1
          obtain ⟨ad', rfl⟩ := hi.addr (by omega)
          have hbr : Below B w wr := (hbW.mono hB).trans (hS.out.mono (by omega))
          have hca := (hbr.cell (p := ad.add k) (by rw [block_of_add]; omega)).trans hcell
          have hcx := ((hi.below hbr (Nat.le_refl _)).at_ hal).2
          unfold maxLen at hc'
          have hk0 : (0 : Int) ≤ (k : Int) := by omega
          have hkn : (k : Int) < (n : Int) := by omega
          have ha0 : (0 : Int) ≤ (a : Int) := by omega
          have han : (a : Int) < (len0 xss : Int) := by omega
          obtain ⟨x, hx⟩ : ∃ x, elOf (rowOf xss k) a = x := ⟨_, rfl⟩
          have HSt : Hid (digL r xss n (len0 xss) a (k + 1) = digL r xss n (len0 xss) a k ++ [x]) := by show _ = _; rw [digL_step, hx]
          rw [hx] at hcx
          have hlen : (digL r xss n (len0 xss) a k).length ≤ 1000000000 := by
            rw [digL_length]
            have : a * n ≤ 100000 * 16 := Nat.mul_le_mul (by omega) (by omega)
            omega
          have hsb : w.heap.size + 1 ≤ wr.heap.size := Nat.le_trans hsW hS.out.size
          clear hi hcell hbr hx
          go_wp2_with (with_reducible refine wpList_push_int rfl (.tmp 38) (.tmp 47) rfl (w.heap.size + 1) A6 _ c6 _ x rfl rfl ho.out hlen hsb ?_; intro g5 cap5 w5 hown5 hb5)
          have HS5 := Lib.hid (hS.out.trans hb5)
          have HO5 : Hid (w5.ownsRow (w.heap.size + 1) 3 1 (.slice (some ⟨g5, 0, none⟩) ((digL r xss n (len0 xss) a k).length + 1) cap5) (digL r xss n (len0 xss) a (k + 1)).length ((digL r xss n (len0 xss) a (k + 1)).map (Value.int .i64))) := by
            show World.ownsRow _ _ _ _ _ _ _
            rw [HSt.out, List.map_append, List.length_append]; exact hown5
          go_roundw
          case rel => exact ⟨k + 1, by omega, by go_num, HS5, HO5⟩
          case measure => simp [intOf]; omega
        · obtain rfl : k = n := by omega
          have HO7 : Hid (wr.ownsRow (w.heap.size + 1) 3 1 (.slice A6 (digL r xss k (len0 xss) a k).length c6) (digL r xss k (len0 xss) (a + 1) 0).length ((digL r xss k (len0 xss) (a + 1) 0).map (Value.int .i64))) := by
            have h := ho.out
            show World.ownsRow _ _ _ _ _ _ _
            rw [← digL_next]; exact h
          go_wp2_with fail
          go_roundw
          case rel => exact ⟨a + 1, by omega, by go_num, hS, HO7⟩
          case measure => simp [intOf]; omega
    · obtain rfl : a = len0 xss := by omega
      obtain ⟨l, hl9⟩ : ∃ l, digL r xss n (len0 xss) (len0 xss) 0 = l := ⟨_, rfl⟩
      have hlen : l.length ≤ 1000000000 := by
        rw [← hl9, digL_length]
        have : len0 xss * n ≤ 100000 * 16 := Nat.mul_le_mul (by omega) (by omega)
        omega
      have HL9 := Lib.hid hl9
      rw [hl9] at HO4 hcc1
      have HI := Lib.hid (ownInts HO4.out)
      unfold maxLen at hcc2
      clear hl9 HO4
      go_wp2_with fail
      rw [HL9.out]
      go_loopw [8, 9] (fun h i wr => ∃ j : Nat, j ≤ l.length ∧ i = .int .i64 j ∧ h = .int .u64 (digF 14695981039346656037 (l.take j)) ∧ wr = w4) (fun _ i _ => l.length - (intOf i).toNat)
      case atStart => exact ⟨0, Nat.zero_le _, rfl, rfl, rfl⟩
      case round =>
        obtain ⟨j, hj, rfl, rfl, rfl⟩ := hrel
        by_cases hjl : j < l.length
        · obtain ⟨a5, rfl⟩ := HI.out.addr (by omega)
          have hcx := (HI.out.at_ hjl).2
          have HU : Hid (digF 14695981039346656037 (l.take (j + 1)) = IntKind.u64.wrap (bits BinOp.xor IntKind.u64 (digF 14695981039346656037 (l.take j)) (IntKind.u64.wrap (elOf l j)) * 1099511628211)) := digF_take hjl
          obtain ⟨h, hh9⟩ : ∃ h, digF 14695981039346656037 (l.take j) = h := ⟨_, rfl⟩
          obtain ⟨x, hx9⟩ : ∃ x, elOf l j = x := ⟨_, rfl⟩
          rw [hh9, hx9] at HU
          rw [hx9] at hcx
          rw [hh9]
          have hj0 : (0 : Int) ≤ (j : Int) := by omega
          have hjn : (j : Int) < (l.length : Int) := by omega
          clear hh9 hx9
          go_wp2_with fail
          go_roundw
          case rel => exact ⟨j + 1, by omega, by go_num, by rw [HU.out], by trivial⟩
          case measure => simp [intOf]; omega
        · obtain rfl : j = l.length := by omega
          rw [List.take_length]
          have HR := Lib.hid (digH_rng r xss n (len0 xss) (len0 xss) 0)
          have HH : Hid (digF 14695981039346656037 l = digH r xss n (len0 xss) (len0 xss) 0) := by show _ = _; unfold digH; rw [HL9.out]
          rw [HH.out]
          obtain ⟨H, hH⟩ : ∃ H, digH r xss n (len0 xss) (len0 xss) 0 = H := ⟨_, rfl⟩
          rw [hH] at HR ⊢
          have HHd := Lib.hid hH
          clear hH HH
          go_wp2_with fail
          go_loopw [10, 11] (fun s i wr => ∃ k : Nat, k ≤ 16 ∧ i = .int .i64 (60 - 4 * (k : Int)) ∧ s = .string (strOfNums ((dgRow H 16).take k)) ∧ Hid (Below (w.heap.size + 1) W wr)) (fun _ i _ => ((intOf i) + 4).toNat)
          case atStart => exact ⟨0, Nat.zero_le _, rfl, rfl, HS4⟩
          case round =>
            obtain ⟨k, hk, rfl, rfl, hS⟩ := hrel
            by_cases hlt : k < 16
            · obtain ⟨sh, hsh⟩ : ∃ sh : Nat, 4 * (15 - k) = sh := ⟨_, rfl⟩
              have hshI : (60 : Int) - 4 * (k : Int) = (sh : Int) := by omega
              rw [hshI]
              have hsh0 : (0 : Int) ≤ (sh : Int) := by omega
              obtain ⟨hb0, hb1⟩ := dig15 HR.out.1 HR.out.2 sh
              have HDG : Hid (digB H k = hexN (bits BinOp.and IntKind.u64 (H / 2 ^ sh) 15).toNat) := by show _ = _; unfold digB; rw [hsh]
              obtain ⟨v, hv⟩ : ∃ v : Nat, bits BinOp.and IntKind.u64 (H / 2 ^ sh) 15 = (v : Int) := Int.eq_ofNat_of_zero_le hb0
              have hv16 : v < 16 := by omega
              have Hv := Lib.hid hv
              obtain ⟨v1, hv1⟩ : ∃ v1, v1 = v + 1 := ⟨_, rfl⟩
              have hvw : IntKind.u64.wrap ((v : Int) + 1) = (v1 : Int) := by rw [IntKind.wrap_u64]; omega
              have hv0 : (0 : Int) ≤ (v : Int) := by omega
              have hvv : (v : Int) ≤ (v1 : Int) := by omega
              have hv16' : (v1 : Int) ≤ 16 := by omega
              have hsl := fun W => run_slice_string (P := Try.prog) (w := W) 9 ⟨#[48, 49, 50, 51, 52, 53, 54, 55, 56, 57, 97, 98, 99, 100, 101, 102]⟩ .u64 .u64 v v1 Try.underlying9 hv0 hvv hv16'
              have HSL := Lib.hid hsl
              have HCS : Hid (strOfNums ((dgRow H 16).take k) ++ (⟨#[48, 49, 50, 51, 52, 53, 54, 55, 56, 57, 97, 98, 99, 100, 101, 102]⟩ : ByteArray).extract v (v + 1) = strOfNums ((dgRow H 16).take (k + 1))) := by
                show _ = _
                rw [take_el (by rw [dgRow_length]; exact hlt), dgRow_el hlt, HDG.out, hv, Int.toNat_natCast]
                exact str_hex _ hv16
              have hcat := eq_false (show ¬ 9223372036854775807 < (strOfNums ((dgRow H 16).take k)).size + (min (v + 1) 16 - v) by rw [strOfNums_size, List.length_take, dgRow_length]; omega)
              have hv := Hv.out
              go_wp2_with fail
              have hS9 := hS.out.drew
              have hS : Below (w.heap.size + 1) W wr.drew := hS9
              refine wp_region_head 12 (fun w' => Below (w.heap.size + 1) W w') (by kernel_rfl) (by kernel_rfl) ?_
              refine HL.take (i := 0) (oi := _) (v := ?_) rfl (by kernel_rfl) (by kernel_rfl) (by decide) (fun _ _ _ h => h) (Or.inl ⟨by rfl, ?_⟩) hS ?_
              rotate_left
              · intro wz hwz
                try dsimp only at hwz
                go_simp
                try with_reducible rfl
              simp only [Act.put, List.setIfInBounds_toArray, List.set_cons_zero, List.set_cons_succ]
              refine HL.take (i := 1) (oi := _) (v := ?_) rfl (by kernel_rfl) (by kernel_rfl) (by decide) (fun _ _ _ h => h) (Or.inl ⟨by rfl, ?_⟩) hS ?_
              rotate_left
              · intro wz hwz
                try dsimp only at hwz
                go_simp
                try with_reducible rfl
              simp only [Act.put, List.setIfInBounds_toArray, List.set_cons_zero, List.set_cons_succ]
              refine HL.take (i := 2) (oi := _) (v := ?_) rfl (by kernel_rfl) (by kernel_rfl) (by decide) (fun _ _ _ h => h) (Or.inl ⟨by rfl, ?_⟩) hS ?_
              rotate_left
              · intro wz hwz
                try dsimp only at hwz
                go_simp
                try with_reducible rfl
              simp only [Act.put, List.setIfInBounds_toArray, List.set_cons_zero, List.set_cons_succ]
              refine HL.take (i := 3) (oi := _) (v := ?_) rfl (by kernel_rfl) (by kernel_rfl) (by decide) (fun _ _ _ h => h) (Or.inl ⟨by rfl, ?_⟩) hS ?_
              rotate_left
              · intro wz hwz
                try dsimp only at hwz
                go_simp
                try with_reducible rfl
              simp only [Act.put, List.setIfInBounds_toArray, List.set_cons_zero, List.set_cons_succ]
              refine HL.take (i := 4) (oi := _) (v := .int .u64 (v : Int)) rfl (by kernel_rfl) (by kernel_rfl) (by decide) (fun _ _ _ h => h) (Or.inl ⟨by rfl, ?_⟩) hS ?_
              · intro wz hwz
                try dsimp only at hwz
                go_simp
                first | done | exact Hv.out | simp only [Hv.out]
              simp only [Act.put, List.setIfInBounds_toArray, List.set_cons_zero, List.set_cons_succ]
              refine HL.take (i := 5) (oi := _) (v := ?_) rfl (by kernel_rfl) (by kernel_rfl) (by decide) (fun _ _ _ h => h) (Or.inl ⟨by rfl, ?_⟩) hS ?_
              rotate_left
              · intro wz hwz
                try dsimp only at hwz
                go_simp
                try with_reducible rfl
              simp only [Act.put, List.setIfInBounds_toArray, List.set_cons_zero, List.set_cons_succ]
              refine HL.take (i := 6) (oi := _) (v := ?_) rfl (by kernel_rfl) (by kernel_rfl) (by decide) (fun _ _ _ h => h) (Or.inl ⟨by rfl, ?_⟩) hS ?_
              rotate_left
              · intro wz hwz
                try dsimp only at hwz
                go_simp
                try with_reducible rfl
              simp only [Act.put, List.setIfInBounds_toArray, List.set_cons_zero, List.set_cons_succ]
              refine HL.take (i := 7) (oi := _) (v := ?_) rfl (by kernel_rfl) (by kernel_rfl) (by decide) (fun _ _ _ h => h) (Or.inl ⟨by rfl, ?_⟩) hS ?_
              rotate_left
              · intro wz hwz
                try dsimp only at hwz
                go_simp
                try with_reducible rfl
              simp only [Act.put, List.setIfInBounds_toArray, List.set_cons_zero, List.set_cons_succ]
              refine HL.take (i := 8) (oi := _) (v := .int .u64 (v : Int)) rfl (by kernel_rfl) (by kernel_rfl) (by decide) (fun _ _ _ h => h) (Or.inl ⟨by rfl, ?_⟩) hS ?_
              · intro wz hwz
                try dsimp only at hwz
                go_simp
                first | done | exact Hv.out | simp only [Hv.out]
              simp only [Act.put, List.setIfInBounds_toArray, List.set_cons_zero, List.set_cons_succ]
              refine HL.take (i := 9) (oi := _) (v := .int .u64 (v1 : Int)) rfl (by kernel_rfl) (by kernel_rfl) (by decide) (fun _ _ _ h => h) (Or.inl ⟨by rfl, ?_⟩) hS ?_
              · intro wz hwz
                try dsimp only at hwz
                go_simp
                first | done | exact hvw | simp only [hvw]
              simp only [Act.put, List.setIfInBounds_toArray, List.set_cons_zero, List.set_cons_succ]
              refine HL.take (i := 10) (oi := _) (v := .string ((⟨#[48, 49, 50, 51, 52, 53, 54, 55, 56, 57, 97, 98, 99, 100, 101, 102]⟩ : ByteArray).extract v v1)) rfl (by kernel_rfl) (by kernel_rfl) (by decide) (fun _ _ _ h => h) (Or.inl ⟨by rfl, ?_⟩) hS ?_
              · intro wz hwz
                try dsimp only at hwz
                have h9 := HSL.out wz
                simp [go_sem, h9]
              simp only [Act.put, List.setIfInBounds_toArray, List.set_cons_zero, List.set_cons_succ]
              refine HL.take (i := 11) (oi := _) (v := ?_) rfl (by kernel_rfl) (by kernel_rfl) (by decide) (fun _ _ _ h => h) (Or.inl ⟨by rfl, ?_⟩) hS ?_
              rotate_left
              · intro wz hwz
                try dsimp only at hwz
                go_simp
                try with_reducible rfl
              simp only [Act.put, List.setIfInBounds_toArray, List.set_cons_zero, List.set_cons_succ]
              refine HL.done (by kernel_rfl) ?_
              simp only [List.drop_succ_cons, List.drop_zero]
              go_simp
              have HS9 := Lib.hid hS
              clear hS
              go_wp2_with fail
              rw [HCS.out]
              go_roundw
              case rel => exact ⟨k + 1, by omega, by rw [show (60 : Int) - 4 * ((k + 1 : Nat) : Int) = (sh : Int) - 4 by omega], rfl, HS9⟩
              case measure => simp [intOf]; omega
            · obtain rfl : k = 16 := by omega
              go_wp2_with fail
              go_ret2
              exact ⟨by rw [List.take_of_length_le (by rw [dgRow_length]; omega)]; unfold digS; rw [HHd.out]; rfl, hbW.trans (hS.out.mono (by omega))⟩
end Go.Proofs.Ytpnbkkpbgpcgiaa
