/- Digest, the sound's. -/
import Derived.Test.YtpnbkkpbgpcgiaaRCheck
import Derived.Test.YtpnbkkpbgpcgiaaEnds
import Derived.Test.YtpnbkkpbgpcgiaaMem2
import Derived.OneCell
import Derived.Laws.Bits64b
import Derived.Laws.BytesArg
set_option linter.unusedSimpArgs false
set_option linter.unusedVariables false
namespace Go.Proofs.Ytpnbkkpbgpcgiaa
open Go.RowKit Go.Dw
def digU (h x : Int) : Int := IntKind.u64.wrap (bits BinOp.xor IntKind.u64 h (IntKind.u64.wrap x) * 1099511628211)
def digF (h : Int) (l : List Int) : Int := l.foldl digU h
theorem digF_snoc (h : Int) (l : List Int) (x : Int) : digF h (l ++ [x]) = digU (digF h l) x := by simp [digF]
def digK (xss : List (List Int)) (i k : Nat) : List Int := (List.range k).map fun a => elOf (rowOf xss a) i
def digI (xss : List (List Int)) (n i : Nat) : List Int := ((List.range i).map fun a => digK xss a n).flatten
def digL (r : Int) (xss : List (List Int)) (n m i k : Nat) : List Int := [r, (n : Int), (m : Int)] ++ (digI xss n i ++ digK xss i k)
theorem digL_step {r : Int} {xss : List (List Int)} {n m i k : Nat} : digL r xss n m i (k + 1) = digL r xss n m i k ++ [elOf (rowOf xss k) i] := by
  simp [digL, digK, List.range_succ]
theorem digL_next {r : Int} {xss : List (List Int)} {n m i : Nat} : digL r xss n m i n = digL r xss n m (i + 1) 0 := by
  simp [digL, digI, digK, List.range_succ]
theorem digL_start {r : Int} {xss : List (List Int)} {n m : Nat} : digL r xss n m 0 0 = [r, (n : Int), (m : Int)] := by simp [digL, digI, digK]
theorem digI_length {xss : List (List Int)} {n i : Nat} : (digI xss n i).length = i * n := by
  induction i with
  | zero => simp [digI]
  | succ i ih =>
    have : digI xss n (i + 1) = digI xss n i ++ digK xss i n := by simp [digI, List.range_succ]
    rw [this, List.length_append, ih, Nat.succ_mul]; simp [digK]
theorem digL_length {r : Int} {xss : List (List Int)} {n m i k : Nat} : (digL r xss n m i k).length = 3 + (i * n + k) := by
  simp [digL, digI_length, digK]; omega
def digH (r : Int) (xss : List (List Int)) (n m i k : Nat) : Int := digF 14695981039346656037 (digL r xss n m i k)
theorem digH_step {r : Int} {xss : List (List Int)} {n m i k : Nat} : digH r xss n m i (k + 1) = digU (digH r xss n m i k) (elOf (rowOf xss k) i) := by
  unfold digH; rw [digL_step, digF_snoc]
theorem digH_next {r : Int} {xss : List (List Int)} {n m i : Nat} : digH r xss n m i n = digH r xss n m (i + 1) 0 := by unfold digH; rw [digL_next]
theorem digH_start {r : Int} {xss : List (List Int)} {n m : Nat} : digH r xss n m 0 0 = digU (digU (digU 14695981039346656037 r) n) m := by
  unfold digH; rw [digL_start]; rfl
theorem byte_info : (Try.prog.info? 5).map (fun i => (i.zero, i.size, i.bytes)) = some (some (.int .u8 0), 1, 1) := by kernel_rfl
set_option maxHeartbeats 800000 in
theorem DIGEST1_any (x h : Int) (g : Nat) (w : World) (hJ : Hid (w.heap[g]? = some (.cells #[.int .u64 h] 82 (0, 0)))) :
    Calls Try.prog 77 #[.int .i64 x, .pointer (some ⟨g, 0, none⟩)] w fun e w' => e = .returned (.tuple #[]) ∧ w'.heap[g]? = some (.cells #[.int .u64 (digU h x)] 82 (0, 0)) ∧ w.grownBy w' (some g) := by
  have c0 := cell_of_one hJ.out
  have f2 := free_of_one hJ.out
  go_enter Try.func77, Try.ntmps77
  go_wp2_with fail
  go_end0
  refine ⟨rfl, one_setCell hJ.out, rfl, rfl, rfl, by simp [World.setCell], fun i hi hne => ?_⟩
  exact Below.heap_setCell _ _ _ _ (by simpa using fun e => hne (by rw [e]))
theorem digU_rng (h x : Int) : 0 ≤ digU h x ∧ digU h x < 18446744073709551616 := by
  unfold digU IntKind.wrap
  simp only [IntKind.signed, IntKind.bits]
  simp
  omega
theorem digF_rng : ∀ (l : List Int) (h : Int), 0 ≤ h → h < 18446744073709551616 → 0 ≤ digF h l ∧ digF h l < 18446744073709551616
  | [], h, h0, h1 => ⟨h0, h1⟩
  | x :: l, h, _, _ => digF_rng l (digU h x) (digU_rng h x).1 (digU_rng h x).2
theorem digH_rng (r : Int) (xss : List (List Int)) (n m i k : Nat) : 0 ≤ digH r xss n m i k ∧ digH r xss n m i k < 18446744073709551616 := digF_rng _ _ (by omega) (by omega)
theorem and15 {x : Int} (h0 : 0 ≤ x) (h1 : x < 18446744073709551616) : bits BinOp.and IntKind.u64 x 15 = x % 16 := by
  obtain ⟨a, rfl⟩ := Int.eq_ofNat_of_zero_le h0
  have h := u64_and_nat a 15 (by omega) (by omega)
  have e : a &&& 15 = a % 16 := Nat.and_two_pow_sub_one_eq_mod a 4
  rw [e] at h
  rw [show (15 : Int) = ((15 : Nat) : Int) from rfl, h]
  omega
theorem dig15 {H : Int} (h0 : 0 ≤ H) (h1 : H < 18446744073709551616) (s : Nat) : 0 ≤ bits BinOp.and IntKind.u64 (H / 2 ^ s) 15 ∧ bits BinOp.and IntKind.u64 (H / 2 ^ s) 15 < 16 := by
  have hp : (0 : Int) < 2 ^ s := Int.pow_pos (by omega)
  have a1 : 0 ≤ H / 2 ^ s := Int.ediv_nonneg h0 (by omega)
  have a2 : H / 2 ^ s ≤ H := Int.ediv_le_self _ h0
  rw [and15 a1 (by omega)]
  omega
def hexN (v : Nat) : Nat := (([48, 49, 50, 51, 52, 53, 54, 55, 56, 57, 97, 98, 99, 100, 101, 102] : List UInt8).getD v 0).toNat
theorem hexN_get (v : Nat) (h : v < (⟨#[48, 49, 50, 51, 52, 53, 54, 55, 56, 57, 97, 98, 99, 100, 101, 102]⟩ : ByteArray).size) : ((⟨#[48, 49, 50, 51, 52, 53, 54, 55, 56, 57, 97, 98, 99, 100, 101, 102]⟩ : ByteArray)[v]'h).toNat = hexN v := by
  have h' : v < 16 := h
  unfold hexN
  rw [List.getD, List.getElem?_eq_getElem (by simpa using h'), Option.getD_some]
  rfl
/-- the digit at place q -/
def digB (H : Int) (q : Nat) : Int := hexN (bits BinOp.and IntKind.u64 (H / 2 ^ (4 * (15 - q))) 15).toNat
def dgRow (H : Int) (i : Nat) : List Int := (List.range 16).map fun q => if 16 - i ≤ q then digB H q else 0
theorem dgRow_zero (H : Int) : dgRow H 0 = List.replicate 16 0 := by
  refine List.ext_getElem (by simp [dgRow]) fun i h1 h2 => ?_
  simp only [dgRow, List.getElem_map, List.getElem_range, List.getElem_replicate]
  rw [List.length_replicate] at h2
  rw [if_neg (by omega)]
theorem dgRow_length (H : Int) (i : Nat) : (dgRow H i).length = 16 := by simp [dgRow]
theorem dgRow_set {H : Int} {k : Nat} (hk : k < 16) : (dgRow H k).set (15 - k) (digB H (15 - k)) = dgRow H (k + 1) := by
  refine List.ext_getElem (by simp [dgRow]) fun i h1 h2 => ?_
  rw [dgRow_length] at h2
  rw [List.getElem_set]
  simp only [dgRow, List.getElem_map, List.getElem_range]
  by_cases h : 15 - k = i
  · subst h; rw [if_pos rfl, if_pos (by omega)]
  · rw [if_neg h]
    by_cases h3 : 16 - k ≤ i
    · rw [if_pos h3, if_pos (by omega)]
    · rw [if_neg h3, if_neg (by omega)]
def digS (r : Int) (n : Nat) (xss : List (List Int)) : ByteArray := strOfNums (dgRow (digH r xss n (len0 xss) (len0 xss) 0) 16)
set_option maxRecDepth 100000 in
set_option maxHeartbeats 4000000 in
theorem DIGEST_ok (r : Int) (ad : Addr) (n c : Nat) (xss : List (List Int)) (hc : Hid (chkS r xss = 0)) (hok : Hid (OkS r xss)) (w : World) (B : Nat) (hB : B ≤ w.heap.size) (hh : Hid (RowsAt w B (some ad) n xss)) :
    Calls Try.prog 41 #[.agg #[.int .i64 r, .slice (some ad) n c]] w fun e w' => e = .returned (.tuple #[.string (digS r n xss), .int .i64 0]) ∧ Below w.heap.size w w' := by
  have hl := Lib.hid hh.out.1
  have hn16 : n ≤ 16 := by have := hok.out.few; have := hl.out; omega
  have hn : 0 < n := by have := hok.out.some; have := hl.out; omega
  have hm := hok.out.long
  have hq : (chkS r xss != 0) = false := by rw [hc.out]; rfl
  go_enter Try.func41, Try.ntmps41
  go_wp2_with fail
  refine calls_later (w.heap.size + 1) ?_
  intro W hW hsW
  obtain ⟨hcW, hfW⟩ := bcell hW
  simp only [World.size_alloc] at hsW
  have hbW : Below w.heap.size w W := ((Below.refl _ w).alloc (Nat.le_refl _) _).trans (hW.mono (by omega))
  have HRx : Hid (RowsAt W B (some ad) n xss) := hh.out.below hbW hB
  refine (CHECK_any r (some ad) n c xss _ B (by omega) (hh.out.below hbW hB)).mono ?_
  rintro e w1 ⟨rfl, hb1⟩
  have hS1 : Below (w.heap.size + 1) W w1 := hb1.mono hsW
  have hz1 := pcell hS1
  have hs1 := hS1.size
  have hlt0 : w.heap.size < w1.heap.size := by omega
  clear hb1
  go_wp2_with fail
  obtain ⟨g, hg⟩ : ∃ g, g = w1.heap.size := ⟨_, rfl⟩
  have hgN : w.heap.size + 1 ≤ g := by omega
  rw [← hg]
  obtain ⟨w2, hw2⟩ : ∃ w2, w2 = w1.alloc (.cells #[.int .u64 14695981039346656037] 82) := ⟨_, rfl⟩
  have HJ2 : Hid (w2.heap[g]? = some (.cells #[.int .u64 14695981039346656037] 82 (0, 0))) := by show _ = _; rw [hw2, hg]; exact heap_alloc_new _ _
  have hS2 : Below (w.heap.size + 1) W w2 := by rw [hw2]; exact hS1.alloc (by omega) _
  rw [← hw2]
  clear hw2 hg hz1 hs1 hlt0
  have hz2 := pcell hS2
  refine (DIGEST1_any r _ g _ HJ2).mono ?_
  rintro e w3 ⟨rfl, hj3, hg3⟩
  have HJ3 := Lib.hid hj3
  have hS3 := hS2.trans (grown_below hg3 (B := w.heap.size + 1) (by have := hS2.size; omega) (fun k e => by injection e with e; omega))
  clear hz2 hj3 hg3
  have hz3 := pcell hS3
  go_wp2_with fail
  refine (DIGEST1_any n _ g _ HJ3).mono ?_
  rintro e w4 ⟨rfl, hj4, hg4⟩
  have HJ4 := Lib.hid hj4
  have hS4 := hS3.trans (grown_below hg4 (B := w.heap.size + 1) (by have := hS3.size; omega) (fun k e => by injection e with e; omega))
  clear hz3 hj4 hg4
  have hz4 := pcell hS4
  go_wp2_with fail
  refine (LENGTH_any r (some ad) n c xss _ B (by have := hS4.size; omega) (HRx.out.below (hS4.mono (by omega)) (Nat.le_refl _)) hn).mono ?_
  rintro e w5 ⟨rfl, hb5⟩
  have hS5 := Below.next hS4 hsW hb5
  have HJ5 := Lib.hid ((hb5.block g (blk_lt HJ4.out)).trans HJ4.out)
  clear hz4 hb5
  have hz5 := pcell hS5
  go_wp2_with fail
  refine (DIGEST1_any (len0 xss : Nat) _ g _ HJ5).mono ?_
  rintro e w6 ⟨rfl, hj6, hg6⟩
  have HJ6 := Lib.hid hj6
  have hS6 := hS5.trans (grown_below hg6 (B := w.heap.size + 1) (by have := hS5.size; omega) (fun k e => by injection e with e; omega))
  clear hz5 hj6 hg6
  have hz6 := pcell hS6
  go_wp2_with fail
  refine (LENGTH_any r (some ad) n c xss _ B (by have := hS6.size; omega) (HRx.out.below (hS6.mono (by omega)) (Nat.le_refl _)) hn).mono ?_
  rintro e w7 ⟨rfl, hb7⟩
  have hS7 := Below.next hS6 hsW hb7
  have HJ7 := Lib.hid ((hb7.block g (blk_lt HJ6.out)).trans HJ6.out)
  clear hz6 hb7
  have hz7 := pcell hS7
  go_wp2_with fail
  have HJ8 : Hid (w7.heap[g]? = some (.cells #[.int .u64 (digH r xss n (len0 xss) 0 0)] 82 (0, 0))) := by show _ = _; rw [digH_start]; exact HJ7.out
  have HS7 := Lib.hid hS7
  clear hS2 hS3 hS4 hS5 hS6 HJ2 HJ3 HJ4 HJ5 HJ6 HJ7 hz7 hS7 hS1
  go_loopw [33] (fun i wr => ∃ a : Nat, a ≤ len0 xss ∧ i = .int .i64 a ∧ Hid (Below (w.heap.size + 1) W wr) ∧ Hid (wr.heap[g]? = some (.cells #[.int .u64 (digH r xss n (len0 xss) a 0)] 82 (0, 0)))) (fun i _ => len0 xss - (intOf i).toNat)
  case atStart => exact ⟨0, Nat.zero_le _, rfl, HS7.out, HJ8.out⟩
  case round =>
    obtain ⟨a, ha, rfl, hS, hJ⟩ := hrel
    have hz := pcell hS.out
    by_cases hal : a < len0 xss
    · go_wp2_with fail
      clear hz
      go_loopw [39] (fun i wr => ∃ k : Nat, k ≤ n ∧ i = .int .i64 k ∧ Hid (Below (w.heap.size + 1) W wr) ∧ Hid (wr.heap[g]? = some (.cells #[.int .u64 (digH r xss n (len0 xss) a k)] 82 (0, 0)))) (fun i _ => n - (intOf i).toNat)
      case atStart => exact ⟨0, Nat.zero_le _, rfl, hS.out, hJ.out⟩
      case round =>
        obtain ⟨k, hk, rfl, hS, hJ⟩ := hrel
        have hz := pcell hS.out
        by_cases hlt : k < n
        · have hkx : Hid (k < xss.length) := by show _ < _; have := hl.out; omega
          obtain ⟨A', n', c', hadB, hcell, hn', hc', hi⟩ := hh.out.row hlt
          obtain rfl : n' = len0 xss := hi.1.symm.trans (hok.out.row hkx.out).1
          obtain ⟨ad', rfl⟩ := hi.addr (by omega)
          have hbr : Below B w wr := (hbW.mono hB).trans (hS.out.mono (by omega))
          have hca := (hbr.cell (p := ad.add k) (by rw [block_of_add]; omega)).trans hcell
          have hcx := ((hi.below hbr (Nat.le_refl _)).at_ hal).2
          unfold maxLen at hc'
          have hk0 : (0 : Int) ≤ (k : Int) := by omega
          have hkn : (k : Int) < (n : Int) := by omega
          have ha0 : (0 : Int) ≤ (a : Int) := by omega
          have han : (a : Int) < (len0 xss : Int) := by omega
          obtain ⟨x, hx⟩ : ∃ x, elOf (rowOf xss k) a = x := ⟨_, rfl⟩
          have HX := Lib.hid hx
          rw [hx] at hcx
          clear hi hcell hbr hx
          go_wp2_with fail
          refine (DIGEST1_any x _ g _ hJ).mono ?_
          rintro e w9 ⟨rfl, hj9, hg9⟩
          have HJ9 : Hid (w9.heap[g]? = some (.cells #[.int .u64 (digH r xss n (len0 xss) a (k + 1))] 82 (0, 0))) := by show _ = _; rw [digH_step, HX.out]; exact hj9
          have HS9 := Lib.hid (hS.out.trans (grown_below hg9 (B := w.heap.size + 1) (by have := hS.out.size; omega) (fun k e => by injection e with e; omega)))
          clear hz hj9 hg9 hca hcx
          go_wp2_with fail
          go_roundw
          case rel => exact ⟨k + 1, by omega, by go_num, HS9, HJ9⟩
          case measure => simp [intOf]; omega
        · obtain rfl : k = n := by omega
          have HJ9 : Hid (wr.heap[g]? = some (.cells #[.int .u64 (digH r xss k (len0 xss) (a + 1) 0)] 82 (0, 0))) := by show _ = _; rw [← digH_next]; exact hJ.out
          go_wp2_with fail
          go_roundw
          case rel => exact ⟨a + 1, by omega, by go_num, hS, HJ9⟩
          case measure => simp [intOf]; omega
    · obtain rfl : a = len0 xss := by omega
      obtain ⟨H, hH⟩ : ∃ H, digH r xss n (len0 xss) (len0 xss) 0 = H := ⟨_, rfl⟩
      have HR := Lib.hid (digH_rng r xss n (len0 xss) (len0 xss) 0)
      rw [hH] at hJ HR
      have hcg := cell_of_one hJ.out
      have hgr := blk_lt hJ.out
      obtain ⟨i0, e0, e1, e2, e3⟩ := info_parts byte_info
      have hmk := run_mk (P := Try.prog) 59 5 i0 _ Try.underlying59 e0 e1 e2 rfl 16 (by rw [e3]; omega) (by omega) wr
      simp only [Int.cast_ofNat_Int] at hmk
      clear e0 e1 e2 e3
      go_wp2_with fail
      obtain ⟨gb, hgb⟩ : ∃ gb, gb = wr.heap.size := ⟨_, rfl⟩
      obtain ⟨w2, hw2⟩ : ∃ w2, w2 = wr.alloc (.cells (mk0 (.int .u8 0) 16) 5) := ⟨_, rfl⟩
      rw [← hgb, ← hw2]
      have HB2 : Hid (w2.ownsRow (w.heap.size + 1) 5 1 (.slice (some ⟨gb, 0, none⟩) 16 16) 16 ((dgRow H 0).map (Value.int .u8))) := by
        show World.ownsRow _ _ _ _ _ _ _
        rw [hw2, hgb, dgRow_zero, List.map_replicate]
        exact own_mk wr _ 5 _ 16 (Nat.le_trans hsW hS.out.size) (by simp only [maxLen]; omega)
      have HJ2 : Hid (w2.heap[g]? = some (.cells #[.int .u64 H] 82 (0, 0))) := by show _ = _; rw [hw2]; exact (Below.heap_alloc _ _ _ hgr).trans hJ.out
      have HS2 : Hid (Below (w.heap.size + 1) W w2) := by show Below _ _ _; rw [hw2]; exact hS.out.alloc (Nat.le_trans hsW hS.out.size) _
      have hgne : g ≠ gb := by omega
      have hgbN : w.heap.size + 1 ≤ gb := by rw [hgb]; exact Nat.le_trans hsW hS.out.size
      clear hw2 hgb hmk hcg hgr hJ hS hz
      go_loopw [54] (fun i wr => ∃ k : Nat, k ≤ 16 ∧ i = .int .i64 k ∧ Hid (Below (w.heap.size + 1) W wr) ∧ Hid (wr.heap[g]? = some (.cells #[.int .u64 H] 82 (0, 0))) ∧ Hid (wr.ownsRow (w.heap.size + 1) 5 1 (.slice (some ⟨gb, 0, none⟩) 16 16) 16 ((dgRow H k).map (Value.int .u8)))) (fun i _ => 16 - (intOf i).toNat)
      case atStart => exact ⟨0, Nat.zero_le _, rfl, HS2.out, HJ2.out, HB2.out⟩
      case round =>
        obtain ⟨k, hk, rfl, hS, hJ, ho⟩ := hrel
        by_cases hlt : k < 16
        · have hcg := cell_of_one hJ.out
          have hk0 : (0 : Int) ≤ (k : Int) := by omega
          have hk1 : (k : Int) < 16 := by omega
          have hkk : 15 - k < 16 := by omega
          have hcv := (ho.out.cellAt (15 - k) (by omega)).trans (List.getElem?_eq_getElem (by rw [List.length_map, dgRow_length]; exact hkk))
          have hfz := ho.out.frozenAt (15 - k)
          obtain ⟨hb0, hb1⟩ := dig15 HR.out.1 HR.out.2 (4 * k)
          have hkey := fun h => hexN_get (bits BinOp.and IntKind.u64 (H / 2 ^ (4 * k)) 15).toNat h
          have hdig : digB H (15 - k) = (hexN (bits BinOp.and IntKind.u64 (H / 2 ^ (4 * k)) 15).toNat : Int) := by
            unfold digB; rw [show 4 * (15 - (15 - k)) = 4 * k by omega]
          obtain ⟨d, hd⟩ : ∃ d, hexN (bits BinOp.and IntKind.u64 (H / 2 ^ (4 * k)) 15).toNat = d := ⟨_, rfl⟩
          rw [hd] at hdig
          simp only [hd] at hkey
          have HO9 : Hid ((wr.setCell ⟨gb, 15 - k, none⟩ (.int .u8 d)).ownsRow (w.heap.size + 1) 5 1 (.slice (some ⟨gb, 0, none⟩) 16 16) 16 ((dgRow H (k + 1)).map (Value.int .u8))) := by
            show World.ownsRow _ _ _ _ _ _ _
            have h1 := (ho.out.stored (15 - k) (.int .u8 d)).1
            rw [← hdig, ← List.map_set, dgRow_set hlt] at h1
            rw [← hdig]; exact h1
          have HS9 := Lib.hid (hS.out.setCell (p := ⟨gb, 15 - k, none⟩) hgbN (.int .u8 d))
          have HJ9 := Lib.hid ((Below.heap_setCell wr ⟨gb, 15 - k, none⟩ (.int .u8 d) g (by simpa using hgne)).trans hJ.out)
          clear hd hdig
          go_wp2_with fail
          go_roundw
          case rel =>
            exact ⟨k + 1, by omega, by go_num, HS9, HJ9, HO9⟩
          case measure => simp [intOf]; omega
        · obtain rfl : k = 16 := by omega
          have hcv := run_convert_bytes_arg (P := Try.prog) wr 59 5 Try.underlying59 Try.underlying5 gb 0 16 16 (dgRow H 16) (dgRow_length H 16) (fun i hi => by
            rw [Nat.zero_add, ho.out.cellAt i (by omega), List.getElem?_map, List.getElem?_eq_getElem (by rw [dgRow_length]; exact hi)]
            simp [List.getD, List.getElem?_eq_getElem (show i < (dgRow H 16).length by rw [dgRow_length]; exact hi)]) 9 Try.underlying9
          go_wp2_with fail
          go_ret2
          exact ⟨by unfold digS; rw [hH]; rfl, hbW.trans (hS.out.mono (by omega))⟩
set_option maxHeartbeats 400000 in
theorem DIGEST_chk (r : Int) (A : Option Addr) (n c : Nat) (xss : List (List Int)) (hc : chkS r xss ≠ 0) (w : World) (B : Nat) (hB : B ≤ w.heap.size) (hh : Hid (RowsAt w B A n xss)) :
    Calls Try.prog 41 #[.agg #[.int .i64 r, .slice A n c]] w fun e w' => e = .returned (.tuple #[.string { data := #[] }, .int .i64 (chkS r xss)]) ∧ Below w.heap.size w w' := by
  have hq : (chkS r xss != 0) = true := by simpa using hc
  clear hc
  go_enter Try.func41, Try.ntmps41
  go_wp2_with fail
  refine calls_later (w.heap.size + 1) ?_
  intro W hW hsW
  obtain ⟨hcW, hfW⟩ := bcell hW
  simp only [World.size_alloc] at hsW
  have hbW : Below w.heap.size w W := ((Below.refl _ w).alloc (Nat.le_refl _) _).trans (hW.mono (by omega))
  go_wp2_with (go_at_call 37; refine (CHECK_any r A n c xss _ B (by omega) (hh.out.below hbW hB)).mono ?_; rintro e w1 ⟨rfl, hb1⟩; have hz1 := pcell (hb1.mono hsW))
  go_ret2
  exact ⟨rfl, hbW.trans (hb1.mono (by omega))⟩
set_option maxHeartbeats 400000 in
theorem RDIGEST_chk (r : Int) (A : Option Addr) (n c : Nat) (xss : List (List Int)) (hc : chkS r xss ≠ 0) (w : World) (B : Nat) (hB : B ≤ w.heap.size) (hh : Hid (RowsAt w B A n xss)) :
    Calls Try.prog 42 #[.agg #[.int .i64 r, .slice A n c]] w fun e w' => e = .returned (.tuple #[.string { data := #[] }, .int .i64 (chkS r xss)]) ∧ Below w.heap.size w w' := by
  have hq : (chkS r xss != 0) = true := by simpa using hc
  clear hc
  go_enter Try.func42, Try.ntmps42
  go_wp2_with fail
  refine calls_later (w.heap.size + 1) ?_
  intro W hW hsW
  obtain ⟨hcW, hfW⟩ := bcell hW
  simp only [World.size_alloc] at hsW
  have hbW : Below w.heap.size w W := ((Below.refl _ w).alloc (Nat.le_refl _) _).trans (hW.mono (by omega))
  go_wp2_with (go_at_call 38; refine (RCHECK_any r A n c xss _ B (by omega) (hh.out.below hbW hB)).mono ?_; rintro e w1 ⟨rfl, hb1⟩; have hz1 := pcell (hb1.mono hsW))
  go_ret2
  exact ⟨rfl, hbW.trans (hb1.mono (by omega))⟩
end Go.Proofs.Ytpnbkkpbgpcgiaa
