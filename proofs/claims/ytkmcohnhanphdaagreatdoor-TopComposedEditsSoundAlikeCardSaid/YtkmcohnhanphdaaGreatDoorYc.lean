/- num.Nat: trim, small, natOf, One. -/
import Derived.Test.YtkmcohnhanphdaaGreatDoorChecked
import Derived.Test.YtkmcohnhanphdaaGreatDoorYb
import Derived.IntWalk
import Derived.PlainAid
import Derived.Laws.BitsAllLaws
import Derived.Deep.QuietTactic
import Derived.BigQuiet
import Derived.RegionTactic
set_option linter.unusedSimpArgs false
set_option linter.unusedVariables false
namespace Go.Proofs.YtkmcohnhanphdaaGreatDoor
open Go.RowKit Go.Dw
theorem u32_info : (Tryz.prog.info? 164).map (fun i => (i.zero, i.size, i.bytes)) = some (some (.int .u32 0), 1, 4) := by kernel_rfl
set_option maxHeartbeats 400000 in
theorem NTRIM_row (A : Option Addr) (n c : Nat) (xs : List Nat) (w : World) (B : Nat) (hd : Hid (DigN 4294967296 xs)) (hh : Hid (RowAt .u32 164 w B A n xs)) (hc : n ≤ c ∧ c ≤ maxLen) :
    Calls Tryz.prog 119 #[.slice A n c] w fun e w' => (∃ m, e = .returned (.slice A m c) ∧ m ≤ n ∧ CanN 4294967296 (xs.take m) ∧ valB 4294967296 (xs.take m) = valB 4294967296 xs) ∧ w = w' := by
  have hl := Lib.hid hh.out.1
  obtain ⟨hc1, hc2⟩ := hc
  unfold maxLen at hc2
  go_enter Tryz.func119, Tryz.ntmps119
  go_wp2
  go_loop [0] (fun s => ∃ m : Nat, m ≤ n ∧ s = .slice A m c ∧ Hid (valB 4294967296 (xs.take m) = valB 4294967296 xs)) (fun s => match s with | .slice _ m _ => m | _ => 0)
  case atStart => exact ⟨n, Nat.le_refl _, rfl, by show _ = _; rw [List.take_of_length_le (by rw [hl.out]; exact Nat.le_refl _)]⟩
  case round =>
    obtain ⟨m, hm, rfl, hv⟩ := hrel
    by_cases h0 : 0 < m
    · obtain ⟨q, o, rfl, hq⟩ := hh.out.addr (by omega)
      have hcell := hh.out.cell (i := m - 1) (by omega)
      obtain ⟨d, hd9⟩ : ∃ d, xs.getD (m - 1) 0 = d := ⟨_, rfl⟩
      rw [hd9] at hcell
      have HD := Lib.hid hd9
      clear hd9
      obtain ⟨j, rfl⟩ : ∃ j, m = j + 1 := ⟨m - 1, by omega⟩
      rw [Nat.add_sub_cancel] at hcell
      by_cases hz : d = 0
      · subst hz
        go_wp2
        go_round
        case rel => exact ⟨j, by omega, rfl, by rw [← valB_take_zero (by rw [hl.out]; omega) (by simpa using HD.out)]; exact hv.out⟩
        case measure => simp
      · have hz1 : ((d : Int) == 0) = false := by simp; omega
        go_wp2
        go_ret
        exact ⟨⟨j + 1, rfl, hm, can_take hd.out (by rw [hl.out]; exact hm) (.inr (by rw [HD.out]; exact hz)), hv.out⟩, rfl⟩
    · obtain rfl : m = 0 := by omega
      go_wp2
      go_ret
      exact ⟨⟨0, rfl, Nat.zero_le _, can_take hd.out (Nat.zero_le _) (.inl rfl), hv.out⟩, rfl⟩
def OutN (w : World) (x k : Nat) (e : Ending) (w' : World) : Prop := ∃ A n c, e = .returned (.slice A n c) ∧ NumAt .u32 164 4294967296 w' w'.heap.size A n c x ∧ n ≤ k ∧ Below w.heap.size w w'
theorem NTRIM_blk (g n : Nat) (L : List Nat) (x : Nat) (w : World) (hb : Hid (BlkN .u32 164 w g L)) (hn : Hid (L.length = n)) (hm : n ≤ maxLen) (hd : Hid (DigN 4294967296 L)) (hx : Hid (valB 4294967296 L = x)) :
    Calls Tryz.prog 119 #[.slice (some ⟨g, 0, none⟩) n n] w fun e w' => (∃ m, e = .returned (.slice (some ⟨g, 0, none⟩) m n) ∧ NumAt .u32 164 4294967296 w w.heap.size (some ⟨g, 0, none⟩) m n x ∧ m ≤ n) ∧ w = w' := by
  have hr : RowAt .u32 164 w w.heap.size (some ⟨g, 0, none⟩) n L := by rw [← hn.out]; exact hb.out.row hb.out.lt
  refine (NTRIM_row _ n n L w _ hd (Lib.hid hr) ⟨Nat.le_refl _, hm⟩).mono ?_
  rintro e w' ⟨⟨m, rfl, h1, h2, h3⟩, rfl⟩
  exact ⟨⟨m, rfl, ⟨h1, hm, _, h2, h3.trans hx.out, hr.take h1⟩, h1⟩, rfl⟩
theorem blk2 (w : World) (x : Nat) : BlkN .u32 164 (w.alloc (.cells #[.int .u32 ((x : Int) % 4294967296), .int .u32 ((x : Int) / 4294967296)] 164)) w.heap.size [x % 4294967296, x / 4294967296] := by
  have h := BlkN.mk .u32 164 w [x % 4294967296, x / 4294967296]
  simpa [cellsN] using h
set_option maxHeartbeats 400000 in
theorem NATOF_any (x : Nat) (hx : x < 18446744073709551616) (w : World) : Calls Tryz.prog 73 #[.int .u64 x] w (OutN w x 2) := by
  have hb := Lib.hid (blk2 w x)
  have hbw := Lib.hid ((Below.refl w.heap.size w).alloc (Nat.le_refl _) (.cells #[.int .u32 ((x : Int) % 4294967296), .int .u32 ((x : Int) / 4294967296)] 164))
  go_enter Tryz.func73, Tryz.ntmps73
  go_wp2_with fail
  refine (NTRIM_blk _ 2 _ x _ hb rfl (by decide) (DigN.cons (by omega) (DigN.cons (by omega) (DigN.nil _))) (by show _ = _; simp [valB]; omega)).mono ?_
  rintro e w1 ⟨⟨m, rfl, h1, h2⟩, rfl⟩
  have H1 := Lib.hid h1
  clear h1
  go_wp2_with fail
  go_ret
  exact ⟨_, _, _, rfl, H1.out, h2, hbw.out⟩
theorem canon1 (b x : Nat) (h : x < b) (h0 : 0 < x) : CanN b [x] := ⟨DigN.cons h (DigN.nil _), by simp; omega⟩
set_option maxHeartbeats 400000 in
theorem NONE_any (w : World) : Calls Tryz.prog 109 #[] w (OutN w 1 1) := by
  have hb : Hid (BlkN .u32 164 (w.alloc (.cells #[.int .u32 1] 164)) w.heap.size [1]) := BlkN.mk .u32 164 w [1]
  have hbw := Lib.hid ((Below.refl w.heap.size w).alloc (Nat.le_refl _) (.cells #[.int .u32 1] 164))
  go_enter Tryz.func109, Tryz.ntmps109
  go_wp2
  go_ret
  exact ⟨_, _, _, rfl, ⟨Nat.le_refl _, by decide, _, canon1 _ 1 (by omega) (by omega), by simp [valB], hb.out.row hb.out.lt⟩, Nat.le_refl _, hbw.out⟩
theorem or_join (lo hi : Nat) (hl : lo < 4294967296) (hh : hi < 4294967296) : bits .or .u64 (lo : Int) ((hi : Int) * 4294967296) = ((lo + 4294967296 * hi : Nat) : Int) := by
  have h := u64_or_nat lo (hi * 4294967296) (by omega) (by omega)
  rw [nat_join32' (hi * 4294967296) lo (by omega) hl] at h
  rw [show ((hi * 4294967296 : Nat) : Int) = (hi : Int) * 4294967296 by omega] at h
  rw [h]; omega
theorem or_join' (lo hi : Nat) (hl : lo < 4294967296) (hh : hi < 4294967296) : bits .or .u64 ((hi : Int) * 4294967296) (lo : Int) = ((lo + 4294967296 * hi : Nat) : Int) := by
  have h := u64_or_nat (hi * 4294967296) lo (by omega) (by omega)
  rw [nat_join32 (hi * 4294967296) lo (by omega) hl] at h
  rw [show ((hi * 4294967296 : Nat) : Int) = (hi : Int) * 4294967296 by omega] at h
  rw [h]; omega
def smallN (x : Nat) : Nat × Bool := if x < 18446744073709551616 then (x, true) else (0, false)
set_option maxHeartbeats 1000000 in
theorem NSMALL_any (A : Option Addr) (n c x : Nat) (w : World) (B : Nat) (hh : Hid (NumAt .u32 164 4294967296 w B A n c x)) :
    Calls Tryz.prog 117 #[.slice A n c] w fun e w' => e = .returned (.tuple #[.int .u64 (smallN x).1, .bool (smallN x).2]) ∧ ∃ q, w' = w.drewN q := by
  obtain ⟨hc1, hc2, xs, hx, hv, hr⟩ := hh.out
  have hl := hr.1
  unfold maxLen at hc2
  have HX := Lib.hid hx
  have HV := Lib.hid hv
  have HR := Lib.hid hr
  clear hx hv hr
  by_cases h0 : n = 0
  · subst h0
    have HS : Hid (smallN x = (0, true)) := by
      show _ = _
      rw [List.eq_nil_of_length_eq_zero hl] at HV
      rw [← HV.out]; rfl
    clear hl
    go_enter Tryz.func117, Tryz.ntmps117
    go_wp2_with fail
    go_ret2
    exact ⟨by rw [HS.out]; rfl, 0, rfl⟩
  by_cases h1 : n = 1
  · subst h1
    obtain ⟨d, rfl⟩ : ∃ d, xs = [d] := by
      match xs, hl with
      | [d], _ => exact ⟨d, rfl⟩
    obtain ⟨q, o, rfl, hq⟩ := HR.out.addr (by omega)
    have hcell : w.cell? ⟨q, o, none⟩ = some (.int .u32 d) := HR.out.cell (i := 0) (by omega)
    have hd : d < 4294967296 := HX.out.1 d (by simp)
    have HS : Hid (smallN x = (d, true)) := by
      show _ = _
      rw [← HV.out, valB_single]; unfold smallN; rw [if_pos (by omega)]
    clear hl
    go_enter Tryz.func117, Tryz.ntmps117
    go_wp2_with fail
    go_ret2
    exact ⟨by rw [HS.out]; rfl, 0, rfl⟩
  by_cases h2 : n = 2
  · subst h2
    obtain ⟨d, d', rfl⟩ : ∃ d d', xs = [d, d'] := by
      match xs, hl with
      | [d, d'], _ => exact ⟨d, d', rfl⟩
    obtain ⟨q, o, rfl, hq⟩ := HR.out.addr (by omega)
    have hcell : w.cell? ⟨q, o, none⟩ = some (.int .u32 d) := HR.out.cell (i := 0) (by omega)
    have hcell2 : w.cell? ⟨q, o + 1, none⟩ = some (.int .u32 d') := HR.out.cell (i := 1) (by omega)
    have hd : d < 4294967296 := HX.out.1 d (by simp)
    have hd' : d' < 4294967296 := HX.out.1 d' (by simp)
    have HS : Hid (smallN x = (d + 4294967296 * d', true)) := by
      show _ = _
      rw [← HV.out]; simp only [valB]; unfold smallN; rw [if_pos (by omega)]; rfl
    clear hl
    go_enter Tryz.func117, Tryz.ntmps117
    go_wp2_with fail
    go_quiet (fail)
    go_wp2_with fail
    go_ret2
    refine ⟨?_, _, rfl⟩
    rw [HS.out, ← or_join d d' hd hd']
    rfl
  · have HS : Hid (smallN x = (0, false)) := by
      show _ = _
      have h9 := HX.out.ge (by intro e; rw [e] at hl; simp at hl; omega)
      have h8 := Nat.pow_le_pow_right (show 0 < 4294967296 by omega) (show 2 ≤ xs.length - 1 by omega)
      rw [HV.out] at h9
      unfold smallN; rw [if_neg (by omega)]
    have k0 : ((n : Int) == 0) = false := by simp; omega
    have k1 : ((n : Int) == 1) = false := by simp; omega
    have k2 : ((n : Int) == 2) = false := by simp; omega
    clear hl
    go_enter Tryz.func117, Tryz.ntmps117
    go_wp2_with fail
    go_ret2
    exact ⟨by rw [HS.out]; rfl, 0, rfl⟩
end Go.Proofs.YtkmcohnhanphdaaGreatDoor
/- num.Nat: Cmp. -/
namespace Go.Proofs.YtkmcohnhanphdaaGreatDoor
open Go.RowKit Go.Dw
def cmpN (x y : Nat) : Int := if x < y then -1 else if x = y then 0 else 1
theorem cmpN_lt {x y : Nat} (h : x < y) : cmpN x y = -1 := by unfold cmpN; rw [if_pos h]
theorem cmpN_gt {x y : Nat} (h : y < x) : cmpN x y = 1 := by unfold cmpN; rw [if_neg (by omega), if_neg (by omega)]
theorem cmpN_eq {x y : Nat} (h : x = y) : cmpN x y = 0 := by unfold cmpN; rw [if_neg (by omega), if_pos h]
theorem drewN_more {w wr : World} (h : ∃ q, wr = w.drewN q) (k : Nat) : ∃ q, wr.drewN k = w.drewN q := by
  obtain ⟨q, rfl⟩ := h
  exact ⟨q + k, by simp [World.drewN, Nat.add_assoc]⟩
set_option maxHeartbeats 1000000 in
theorem NCMP_any (A A' : Option Addr) (n c x n' c' y : Nat) (w : World) (B : Nat) (hh : Hid (NumAt .u32 164 4294967296 w B A n c x)) (hh' : Hid (NumAt .u32 164 4294967296 w B A' n' c' y)) :
    Calls Tryz.prog 71 #[.slice A n c, .slice A' n' c'] w fun e w' => e = .returned (.int .i64 (cmpN x y)) ∧ ∃ q, w' = w.drewN q := by
  obtain ⟨hc1, hc2, xs, hx, hv, hr⟩ := hh.out
  obtain ⟨hc1', hc2', ys, hx', hv', hr'⟩ := hh'.out
  have hl := hr.1
  have hl' := hr'.1
  unfold maxLen at hc2 hc2'
  have HX := Lib.hid hx
  have HV := Lib.hid hv
  have HR := Lib.hid hr
  have HX' := Lib.hid hx'
  have HV' := Lib.hid hv'
  have HR' := Lib.hid hr'
  have HL := Lib.hid hl
  have HL' := Lib.hid hl'
  clear hx hv hr hx' hv' hr' hl hl'
  by_cases h1 : n < n'
  · have HS : Hid (cmpN x y = -1) := by
      show _ = _
      refine cmpN_lt ?_
      rw [← HV.out, ← HV'.out]
      exact CanN.lt_len (by omega) HX.out HX'.out (by rw [HL.out, HL'.out]; exact h1)
    have k0 : ((n : Int) != (n' : Int)) = true := by simp; omega
    go_enter Tryz.func71, Tryz.ntmps71
    go_wp2_with fail
    go_ret
    exact ⟨by rw [HS.out]; rfl, 0, rfl⟩
  by_cases h2 : n' < n
  · have HS : Hid (cmpN x y = 1) := by
      show _ = _
      refine cmpN_gt ?_
      rw [← HV.out, ← HV'.out]
      exact CanN.lt_len (by omega) HX'.out HX.out (by rw [HL.out, HL'.out]; exact h2)
    have k0 : ((n : Int) != (n' : Int)) = true := by simp; omega
    go_enter Tryz.func71, Tryz.ntmps71
    go_wp2_with fail
    go_ret
    exact ⟨by rw [HS.out]; rfl, 0, rfl⟩
  obtain rfl : n = n' := by omega
  clear h1 h2
  have k0 : ((n : Int) != (n : Int)) = false := by simp
  go_enter Tryz.func71, Tryz.ntmps71
  go_wp2_with fail
  go_loopw [5] (fun i wr => ∃ (k : Nat) (z : Int), k ≤ n ∧ i = .int .i64 z ∧ Hid (z = (k : Int) - 1) ∧ Hid (xs.drop k = ys.drop k) ∧ Hid (∃ q, wr = w.drewN q)) (fun i _ => (intOf i + 1).toNat)
  case atStart => exact ⟨n, _, Nat.le_refl _, rfl, rfl, (by show _ = _; rw [List.drop_of_length_le (by rw [HL.out]; exact Nat.le_refl _), List.drop_of_length_le (by rw [HL'.out]; exact Nat.le_refl _)]), ⟨0, rfl⟩⟩
  case round =>
    obtain ⟨k, z, hk, rfl, hz, hd, hw⟩ := hrel
    by_cases h0 : 0 < k
    · obtain ⟨j, rfl⟩ : ∃ j, k = j + 1 := ⟨k - 1, by omega⟩
      obtain rfl : z = (j : Int) := by have := hz.out; omega
      obtain ⟨q, o, rfl, hq⟩ := HR.out.addr (by omega)
      obtain ⟨q', o', rfl, hq'⟩ := HR'.out.addr (by omega)
      have hcell : wr.cell? ⟨q, o + j, none⟩ = some (.int .u32 (xs.getD j 0 : Nat)) := by obtain ⟨t, rfl⟩ := hw.out; exact HR.out.cell (i := j) (by omega)
      have hcell' : wr.cell? ⟨q', o' + j, none⟩ = some (.int .u32 (ys.getD j 0 : Nat)) := by obtain ⟨t, rfl⟩ := hw.out; exact HR'.out.cell (i := j) (by omega)
      obtain ⟨d, hd1⟩ : ∃ d, xs.getD j 0 = d := ⟨_, rfl⟩
      obtain ⟨d', hd2⟩ : ∃ d, ys.getD j 0 = d := ⟨_, rfl⟩
      rw [hd1] at hcell
      rw [hd2] at hcell'
      have HD := Lib.hid hd1
      have HD' := Lib.hid hd2
      have hj : (0 : Int) ≤ (j : Int) ∧ (j : Int) < (n : Int) := by omega
      obtain ⟨hj1, hj2⟩ := hj
      clear hd1 hd2 hz
      by_cases he : d = d'
      · subst he
        have ke : ((d : Int) != (d : Int)) = false := by simp
        go_wp2_with fail
        go_quiet (fail)
        go_wp2_with fail
        go_roundw
        case rel =>
          refine ⟨j, _, by omega, rfl, by show _ = _; omega, ?_, drewN_more hw.out nq⟩
          show _ = _
          rw [drop_getD (by rw [HL.out]; omega), drop_getD (l := ys) (by rw [HL'.out]; omega), hd.out, HD.out, HD'.out]
        case measure => simp [intOf] <;> omega
      · have ke : ((d : Int) != (d' : Int)) = true := by simp; omega
        have hlt := fun h => valB_lt_at HX.out.1 HX'.out.1 (by rw [HL.out, HL'.out]) (i := j) (by rw [HL.out]; omega) hd.out h
        have hgt := fun h => valB_lt_at HX'.out.1 HX.out.1 (by rw [HL.out, HL'.out]) (i := j) (by rw [HL'.out]; omega) hd.out.symm h
        rw [HD.out, HD'.out, HV.out, HV'.out] at hlt hgt
        by_cases hdd : d < d'
        · have HS : Hid (cmpN x y = -1) := cmpN_lt (hlt hdd)
          clear hlt hgt
          go_wp2_with fail
          go_quiet (fail)
          go_wp2_with fail
          go_quiet (fail)
          go_wp2_with fail
          go_ret
          exact ⟨by rw [HS.out]; rfl, drewN_more (drewN_more hw.out _) _⟩
        · have HS : Hid (cmpN x y = 1) := cmpN_gt (hgt (by omega))
          clear hlt hgt
          go_wp2_with fail
          go_quiet (fail)
          go_wp2_with fail
          go_quiet (fail)
          go_wp2_with fail
          go_ret
          exact ⟨by rw [HS.out]; rfl, drewN_more (drewN_more hw.out _) _⟩
    · obtain rfl : k = 0 := by omega
      obtain rfl : z = -1 := by have := hz.out; omega
      have HS : Hid (cmpN x y = 0) := by
        refine cmpN_eq ?_
        have := hd.out
        rw [List.drop_zero, List.drop_zero] at this
        rw [← HV.out, ← HV'.out, this]
      go_wp2_with fail
      go_ret
      exact ⟨by rw [HS.out]; rfl, hw.out⟩
end Go.Proofs.YtkmcohnhanphdaaGreatDoor
/- num.Nat: Add, sub. -/
namespace Go.Proofs.YtkmcohnhanphdaaGreatDoor
open Go.RowKit Go.Dw
theorem mkNat (n : Nat) (hn : n ≤ 1099511627776) (W : World) : (Instr.makeSlice 80 (.int .i64 (n : Int)) (.int .i64 (n : Int))).run Tryz.prog W = .ok (.slice (some ⟨W.heap.size, 0, none⟩) n n) (W.alloc (.cells (cellsN .u32 (List.replicate n 0)) 164)) := by
  obtain ⟨i0, hi, hz0, hz1, hz2⟩ := info_parts u32_info
  exact run_makeN 80 164 i0 .u32 Tryz.underlying80 hi hz0 hz1 n (by rw [hz2]; omega) (by omega) W
theorem mkNat1 (n : Nat) (hn : n ≤ 1000000000000) (W : World) : (Instr.makeSlice 80 (.int .i64 ((n : Int) + 1)) (.int .i64 ((n : Int) + 1))).run Tryz.prog W = .ok (.slice (some ⟨W.heap.size, 0, none⟩) (n + 1) (n + 1)) (W.alloc (.cells (cellsN .u32 (List.replicate (n + 1) 0)) 164)) := by
  have := mkNat (n + 1) (by omega) W
  rwa [show ((n + 1 : Nat) : Int) = (n : Int) + 1 by omega] at this
theorem getD_over {l : List Nat} {k : Nat} (h : l.length ≤ k) : l.getD k 0 = 0 := by simp [List.getD, List.getElem?_eq_none h]
set_option maxRecDepth 100000 in
set_option maxHeartbeats 2000000 in
theorem NADD_any (A A' : Option Addr) (n c x n' c' y : Nat) (hn : n ≤ 1000000000000) (hn' : n' ≤ 1000000000000) (w : World) (B : Nat) (hB : B ≤ w.heap.size) (hh : Hid (NumAt .u32 164 4294967296 w B A n c x)) (hh' : Hid (NumAt .u32 164 4294967296 w B A' n' c' y)) :
    Calls Tryz.prog 120 #[.slice A n c, .slice A' n' c'] w (OutN w (x + y) (max n n' + 1)) := by
  obtain ⟨hc1, hc2, xs, hx, hv, hr⟩ := hh.out
  obtain ⟨hc1', hc2', ys, hx', hv', hr'⟩ := hh'.out
  have hl := hr.1
  have hl' := hr'.1
  unfold maxLen at hc2 hc2'
  have HX := Lib.hid hx
  have HV := Lib.hid hv
  have HR := Lib.hid hr
  have HX' := Lib.hid hx'
  have HV' := Lib.hid hv'
  have HR' := Lib.hid hr'
  have HL := Lib.hid hl
  have HL' := Lib.hid hl'
  clear hx hv hr hx' hv' hr' hl hl' hh hh'
  by_cases h1 : n < n'
  · skip
    have hmk := mkNat1 n' (by omega)
    go_enter Tryz.func120, Tryz.ntmps120
    go_wp2_with fail
    obtain ⟨g, hg⟩ : ∃ g, g = w.heap.size := ⟨_, rfl⟩
    rw [← hg]
    have HG := Lib.hid hg
    obtain ⟨W, hW⟩ : ∃ W, W = w.alloc (.cells (cellsN .u32 (List.replicate (n' + 1) 0)) 164) := ⟨_, rfl⟩
    have HB0 : Hid (BlkN .u32 164 W g (List.replicate (n' + 1) 0)) := by rw [hW, hg]; exact BlkN.mk _ _ _ _
    have HW0 : Hid (Below g w W) := by show Below _ _ _; rw [hW, hg]; exact (Below.refl _ _).alloc (Nat.le_refl _) _
    rw [← hW]
    clear hW hg hmk
    go_loopw [6, 21] (fun cv i wr => ∃ (k cN : Nat) (L : List Nat), k ≤ n' ∧ i = .int .i64 k ∧ cv = .int .u64 cN ∧ cN ≤ 1 ∧ Hid (L.length = n' + 1) ∧ Hid (DigN 4294967296 L) ∧ Hid (valB 4294967296 (L.take k) + 4294967296 ^ k * cN = valB 4294967296 (ys.take k) + valB 4294967296 (xs.take k)) ∧ Hid (BlkN .u32 164 wr g L) ∧ Hid (Below g w wr)) (fun _ i _ => n' - (intOf i).toNat)
    case atStart => exact ⟨0, 0, _, Nat.zero_le _, rfl, rfl, Nat.zero_le _, by show _ = _; simp, DigN.zeros (by omega) _, by show _ = _; simp [valB], HB0, HW0⟩
    case round =>
      obtain ⟨k, cN, L, hk, rfl, rfl, hcN, hL, hD, hI, hb, hw⟩ := hrel
      have HRX := Lib.hid (HR'.out.below hw.out (by rw [HG.out]; omega))
      have HRY := Lib.hid (HR.out.below hw.out (by rw [HG.out]; omega))
      by_cases hlt : k < n'
      · obtain ⟨q, o, rfl, hq⟩ := HRX.out.addr (by omega)
        have hx := HRX.out.cell hlt
        have hold := hb.out.cell (i := k) (by rw [hL.out]; omega)
        have hfr := hb.out.frozen k
        have hdx := HX'.out.1.get (by omega) k
        have hdy := HX.out.1.get (by omega) k
        obtain ⟨d, hd1⟩ : ∃ d, ys.getD k 0 = d := ⟨_, rfl⟩
        obtain ⟨d', hd2⟩ : ∃ d, xs.getD k 0 = d := ⟨_, rfl⟩
        have HD1 := Lib.hid hd1
        have HD2 := Lib.hid hd2
        rw [hd1] at hx hdx
        rw [hd2] at hdy
        obtain ⟨t, ht⟩ : ∃ t, cN + d = t := ⟨_, rfl⟩
        obtain ⟨s, hs⟩ : ∃ s, t + d' = s := ⟨_, rfl⟩
        have HT := Lib.hid ht
        have HS := Lib.hid hs
        have hti : (cN : Int) + (d : Int) = (t : Int) := by omega
        have hsi : (t : Int) + (d' : Int) = (s : Int) := by omega
        have ht1 : t < 8589934592 := by omega
        have hs1 : s < 8589934592 := by omega
        have hset := hb.out.set k (s % 4294967296)
        rw [show ((s % 4294967296 : Nat) : Int) = (s : Int) % 4294967296 by omega] at hset
        have HSET := Lib.hid hset
        have HNEW := Lib.hid (add_step (b := 4294967296) (X := ys) (Y := xs) (s := s) (by rw [hL.out]; omega) (by rw [HD1.out, HD2.out]; omega) hI.out)
        have hk0 : (0 : Int) ≤ (k : Int) ∧ (k : Int) < (n' : Int) := by omega
        obtain ⟨hk0, hk1⟩ := hk0
        have hs2 : s / 4294967296 ≤ 1 := by omega
        clear hd1 hd2 hset ht hs
        by_cases hy : k < n
        · obtain ⟨q', o', rfl, hq'⟩ := HRY.out.addr (by omega)
          have hy1 := HRY.out.cell hy
          rw [HD2.out] at hy1
          go_wp2_with fail
          go_roundw
          case rel =>
            refine ⟨k + 1, s / 4294967296, _, by omega, by go_num, rfl, hs2, ?_, ?_, HNEW, HSET, ?_⟩
            · show _ = _; rw [List.length_set]; exact hL.out
            · exact hD.out.set (Nat.mod_lt _ (by omega)) k
            · exact hw.out.setCell (Nat.le_refl _) _
          case measure => simp [intOf] <;> omega
        · obtain rfl : d' = 0 := by rw [← HD2.out]; exact getD_over (by rw [HL.out]; omega)
          obtain rfl : t = s := by have := HS.out; omega
          clear hsi
          go_wp2_with fail
          go_roundw
          case rel =>
            refine ⟨k + 1, t / 4294967296, _, by omega, by go_num, rfl, hs2, ?_, ?_, HNEW, HSET, ?_⟩
            · show _ = _; rw [List.length_set]; exact hL.out
            · exact hD.out.set (Nat.mod_lt _ (by omega)) k
            · exact hw.out.setCell (Nat.le_refl _) _
          case measure => simp [intOf] <;> omega
      · obtain rfl : k = n' := by omega
        have hold := hb.out.cell (i := k) (by rw [hL.out]; omega)
        have hfr := hb.out.frozen k
        have hset := hb.out.set k cN
        have HSET := Lib.hid hset
        clear hset
        have HNEW : Hid (valB 4294967296 (L.set k cN) = x + y) := by
          show _ = _
          have h1 := take_set_succ L cN (k := k) (by rw [hL.out]; omega)
          rw [List.take_of_length_le (by rw [List.length_set, hL.out]; exact Nat.le_refl _)] at h1
          rw [h1, valB_snoc, List.length_take, Nat.min_eq_left (by rw [hL.out]; omega)]
          have h2 := hI.out
          rw [List.take_of_length_le (l := ys) (by rw [HL'.out]; omega), List.take_of_length_le (l := xs) (by rw [HL.out]; omega)] at h2
          rw [h2, HV.out, HV'.out]
          try omega
        have hc9 : (cN : Int) < 4294967296 := by omega
        go_wp2_with fail
        refine (NTRIM_blk _ _ _ _ _ HSET (by show _ = _; rw [List.length_set]; exact hL.out) (by unfold maxLen; omega) (hD.out.set (by omega) k) HNEW).mono ?_
        rintro e w1 ⟨⟨m, rfl, h1, h2⟩, rfl⟩
        have H1 := Lib.hid h1
        clear h1
        go_wp2_with fail
        go_ret
        exact ⟨_, _, _, rfl, H1.out, by omega, (hw.out.setCell (Nat.le_refl _) _).mono (by rw [HG.out]; exact Nat.le_refl _)⟩
  · skip
    have hmk := mkNat1 n (by omega)
    go_enter Tryz.func120, Tryz.ntmps120
    go_wp2_with fail
    obtain ⟨g, hg⟩ : ∃ g, g = w.heap.size := ⟨_, rfl⟩
    rw [← hg]
    have HG := Lib.hid hg
    obtain ⟨W, hW⟩ : ∃ W, W = w.alloc (.cells (cellsN .u32 (List.replicate (n + 1) 0)) 164) := ⟨_, rfl⟩
    have HB0 : Hid (BlkN .u32 164 W g (List.replicate (n + 1) 0)) := by rw [hW, hg]; exact BlkN.mk _ _ _ _
    have HW0 : Hid (Below g w W) := by show Below _ _ _; rw [hW, hg]; exact (Below.refl _ _).alloc (Nat.le_refl _) _
    rw [← hW]
    clear hW hg hmk
    go_loopw [6, 21] (fun cv i wr => ∃ (k cN : Nat) (L : List Nat), k ≤ n ∧ i = .int .i64 k ∧ cv = .int .u64 cN ∧ cN ≤ 1 ∧ Hid (L.length = n + 1) ∧ Hid (DigN 4294967296 L) ∧ Hid (valB 4294967296 (L.take k) + 4294967296 ^ k * cN = valB 4294967296 (xs.take k) + valB 4294967296 (ys.take k)) ∧ Hid (BlkN .u32 164 wr g L) ∧ Hid (Below g w wr)) (fun _ i _ => n - (intOf i).toNat)
    case atStart => exact ⟨0, 0, _, Nat.zero_le _, rfl, rfl, Nat.zero_le _, by show _ = _; simp, DigN.zeros (by omega) _, by show _ = _; simp [valB], HB0, HW0⟩
    case round =>
      obtain ⟨k, cN, L, hk, rfl, rfl, hcN, hL, hD, hI, hb, hw⟩ := hrel
      have HRX := Lib.hid (HR.out.below hw.out (by rw [HG.out]; omega))
      have HRY := Lib.hid (HR'.out.below hw.out (by rw [HG.out]; omega))
      by_cases hlt : k < n
      · obtain ⟨q, o, rfl, hq⟩ := HRX.out.addr (by omega)
        have hx := HRX.out.cell hlt
        have hold := hb.out.cell (i := k) (by rw [hL.out]; omega)
        have hfr := hb.out.frozen k
        have hdx := HX.out.1.get (by omega) k
        have hdy := HX'.out.1.get (by omega) k
        obtain ⟨d, hd1⟩ : ∃ d, xs.getD k 0 = d := ⟨_, rfl⟩
        obtain ⟨d', hd2⟩ : ∃ d, ys.getD k 0 = d := ⟨_, rfl⟩
        have HD1 := Lib.hid hd1
        have HD2 := Lib.hid hd2
        rw [hd1] at hx hdx
        rw [hd2] at hdy
        obtain ⟨t, ht⟩ : ∃ t, cN + d = t := ⟨_, rfl⟩
        obtain ⟨s, hs⟩ : ∃ s, t + d' = s := ⟨_, rfl⟩
        have HT := Lib.hid ht
        have HS := Lib.hid hs
        have hti : (cN : Int) + (d : Int) = (t : Int) := by omega
        have hsi : (t : Int) + (d' : Int) = (s : Int) := by omega
        have ht1 : t < 8589934592 := by omega
        have hs1 : s < 8589934592 := by omega
        have hset := hb.out.set k (s % 4294967296)
        rw [show ((s % 4294967296 : Nat) : Int) = (s : Int) % 4294967296 by omega] at hset
        have HSET := Lib.hid hset
        have HNEW := Lib.hid (add_step (b := 4294967296) (X := xs) (Y := ys) (s := s) (by rw [hL.out]; omega) (by rw [HD1.out, HD2.out]; omega) hI.out)
        have hk0 : (0 : Int) ≤ (k : Int) ∧ (k : Int) < (n : Int) := by omega
        obtain ⟨hk0, hk1⟩ := hk0
        have hs2 : s / 4294967296 ≤ 1 := by omega
        clear hd1 hd2 hset ht hs
        by_cases hy : k < n'
        · obtain ⟨q', o', rfl, hq'⟩ := HRY.out.addr (by omega)
          have hy1 := HRY.out.cell hy
          rw [HD2.out] at hy1
          go_wp2_with fail
          go_roundw
          case rel =>
            refine ⟨k + 1, s / 4294967296, _, by omega, by go_num, rfl, hs2, ?_, ?_, HNEW, HSET, ?_⟩
            · show _ = _; rw [List.length_set]; exact hL.out
            · exact hD.out.set (Nat.mod_lt _ (by omega)) k
            · exact hw.out.setCell (Nat.le_refl _) _
          case measure => simp [intOf] <;> omega
        · obtain rfl : d' = 0 := by rw [← HD2.out]; exact getD_over (by rw [HL'.out]; omega)
          obtain rfl : t = s := by have := HS.out; omega
          clear hsi
          go_wp2_with fail
          go_roundw
          case rel =>
            refine ⟨k + 1, t / 4294967296, _, by omega, by go_num, rfl, hs2, ?_, ?_, HNEW, HSET, ?_⟩
            · show _ = _; rw [List.length_set]; exact hL.out
            · exact hD.out.set (Nat.mod_lt _ (by omega)) k
            · exact hw.out.setCell (Nat.le_refl _) _
          case measure => simp [intOf] <;> omega
      · obtain rfl : k = n := by omega
        have hold := hb.out.cell (i := k) (by rw [hL.out]; omega)
        have hfr := hb.out.frozen k
        have hset := hb.out.set k cN
        have HSET := Lib.hid hset
        clear hset
        have HNEW : Hid (valB 4294967296 (L.set k cN) = x + y) := by
          show _ = _
          have h1 := take_set_succ L cN (k := k) (by rw [hL.out]; omega)
          rw [List.take_of_length_le (by rw [List.length_set, hL.out]; exact Nat.le_refl _)] at h1
          rw [h1, valB_snoc, List.length_take, Nat.min_eq_left (by rw [hL.out]; omega)]
          have h2 := hI.out
          rw [List.take_of_length_le (l := xs) (by rw [HL.out]; omega), List.take_of_length_le (l := ys) (by rw [HL'.out]; omega)] at h2
          rw [h2, HV.out, HV'.out]
          try omega
        have hc9 : (cN : Int) < 4294967296 := by omega
        go_wp2_with fail
        refine (NTRIM_blk _ _ _ _ _ HSET (by show _ = _; rw [List.length_set]; exact hL.out) (by unfold maxLen; omega) (hD.out.set (by omega) k) HNEW).mono ?_
        rintro e w1 ⟨⟨m, rfl, h1, h2⟩, rfl⟩
        have H1 := Lib.hid h1
        clear h1
        go_wp2_with fail
        go_ret
        exact ⟨_, _, _, rfl, H1.out, by omega, (hw.out.setCell (Nat.le_refl _) _).mono (by rw [HG.out]; exact Nat.le_refl _)⟩
set_option maxRecDepth 100000 in
set_option maxHeartbeats 2000000 in
theorem NSUB_any (A A' : Option Addr) (n c x n' c' y : Nat) (hn : n ≤ 1000000000000) (hle : y ≤ x) (w : World) (B : Nat) (hB : B ≤ w.heap.size) (hh : Hid (NumAt .u32 164 4294967296 w B A n c x)) (hh' : Hid (NumAt .u32 164 4294967296 w B A' n' c' y)) :
    Calls Tryz.prog 121 #[.slice A n c, .slice A' n' c'] w (OutN w (x - y) n) := by
  have hnn := hh'.out.len_mono (by omega) hh.out hle
  obtain ⟨hc1, hc2, xs, hx, hv, hr⟩ := hh.out
  obtain ⟨hc1', hc2', ys, hx', hv', hr'⟩ := hh'.out
  have hl := hr.1
  have hl' := hr'.1
  unfold maxLen at hc2 hc2'
  have HX := Lib.hid hx
  have HV := Lib.hid hv
  have HR := Lib.hid hr
  have HX' := Lib.hid hx'
  have HV' := Lib.hid hv'
  have HR' := Lib.hid hr'
  have HL := Lib.hid hl
  have HL' := Lib.hid hl'
  clear hx hv hr hx' hv' hr' hl hl' hh hh'
  have hmk := mkNat n (by omega)
  go_enter Tryz.func121, Tryz.ntmps121
  go_wp2_with fail
  obtain ⟨g, hg⟩ : ∃ g, g = w.heap.size := ⟨_, rfl⟩
  rw [← hg]
  have HG := Lib.hid hg
  obtain ⟨W, hW⟩ : ∃ W, W = w.alloc (.cells (cellsN .u32 (List.replicate n 0)) 164) := ⟨_, rfl⟩
  have HB0 : Hid (BlkN .u32 164 W g (List.replicate n 0)) := by rw [hW, hg]; exact BlkN.mk _ _ _ _
  have HW0 : Hid (Below g w W) := by show Below _ _ _; rw [hW, hg]; exact (Below.refl _ _).alloc (Nat.le_refl _) _
  rw [← hW]
  clear hW hg hmk
  go_loopw [6, 13] (fun cv i wr => ∃ (k bo : Nat) (L : List Nat), k ≤ n ∧ i = .int .i64 k ∧ cv = .int .i64 (-(bo : Int)) ∧ bo ≤ 1 ∧ Hid (L.length = n) ∧ Hid (DigN 4294967296 L) ∧ Hid (valB 4294967296 (L.take k) + valB 4294967296 (ys.take k) = valB 4294967296 (xs.take k) + 4294967296 ^ k * bo) ∧ Hid (BlkN .u32 164 wr g L) ∧ Hid (Below g w wr)) (fun _ i _ => n - (intOf i).toNat)
  case atStart => exact ⟨0, 0, _, Nat.zero_le _, rfl, rfl, Nat.zero_le _, by show _ = _; simp, DigN.zeros (by omega) _, by show _ = _; simp [valB], HB0, HW0⟩
  case round =>
    obtain ⟨k, bo, L, hk, rfl, rfl, hcN, hL, hD, hI, hb, hw⟩ := hrel
    have HRX := Lib.hid (HR.out.below hw.out (by rw [HG.out]; omega))
    have HRY := Lib.hid (HR'.out.below hw.out (by rw [HG.out]; omega))
    by_cases hlt : k < n
    · obtain ⟨q, o, rfl, hq⟩ := HRX.out.addr (by omega)
      have hx := HRX.out.cell hlt
      have hold := hb.out.cell (i := k) (by rw [hL.out]; omega)
      have hfr := hb.out.frozen k
      have hdx := HX.out.1.get (by omega) k
      have hdy := HX'.out.1.get (by omega) k
      obtain ⟨d, hd1⟩ : ∃ d, xs.getD k 0 = d := ⟨_, rfl⟩
      obtain ⟨d', hd2⟩ : ∃ d, ys.getD k 0 = d := ⟨_, rfl⟩
      have HD1 := Lib.hid hd1
      have HD2 := Lib.hid hd2
      rw [hd1] at hx hdx
      rw [hd2] at hdy
      obtain ⟨bi, hbi⟩ : ∃ bi : Int, -(bo : Int) = bi := ⟨_, rfl⟩
      rw [hbi]
      obtain ⟨t, ht⟩ : ∃ t, bi + (d : Int) = t := ⟨_, rfl⟩
      obtain ⟨z, hz⟩ : ∃ z, t - (d' : Int) = z := ⟨_, rfl⟩
      obtain ⟨s, bo', hs⟩ : ∃ s bo' : Nat, s < 4294967296 ∧ bo' ≤ 1 ∧ (s : Int) = z + 4294967296 * bo' := by
        by_cases h : 0 ≤ z
        · exact ⟨z.toNat, 0, by omega, by omega, by omega⟩
        · exact ⟨(z + 4294967296).toNat, 1, by omega, by omega, by omega⟩
      obtain ⟨hs2, hbo2, hs3⟩ := hs
      have HNEW := Lib.hid (sub_step (b := 4294967296) (X := xs) (Y := ys) (s := s) (c' := bo') (by rw [hL.out]; omega) (by rw [HD1.out, HD2.out]; omega) hI.out)
      have hbb : -1 ≤ bi ∧ bi ≤ 0 := by omega
      have htt : -1 ≤ t ∧ t < 4294967296 := by omega
      have hzz : -4294967296 ≤ z ∧ z < 4294967296 := by omega
      obtain ⟨hbb1, hbb2⟩ := hbb
      obtain ⟨htt1, htt2⟩ := htt
      obtain ⟨hzz1, hzz2⟩ := hzz
      have hset := hb.out.set k s
      rw [show (s : Int) = z % 4294967296 by omega] at hset
      have HZ := Lib.hid hs3
      have HSET := Lib.hid hset
      have hk0 : (0 : Int) ≤ (k : Int) ∧ (k : Int) < (n : Int) := by omega
      obtain ⟨hk0, hk1⟩ := hk0
      have HE := Lib.hid (And.intro hbi (And.intro ht hz))
      clear hd1 hd2 hset hbi hs3
      by_cases hy : k < n'
      · obtain ⟨q', o', rfl, hq'⟩ := HRY.out.addr (by omega)
        have hy1 := HRY.out.cell hy
        rw [HD2.out] at hy1
        go_wp2_with fail
        go_roundw
        case rel =>
          refine ⟨k + 1, bo', _, by omega, by go_num, val_int (by have := HZ.out; omega), hbo2, ?_, ?_, HNEW, HSET, ?_⟩
          · show _ = _; rw [List.length_set]; exact hL.out
          · exact hD.out.set hs2 k
          · exact hw.out.setCell (Nat.le_refl _) _
        case measure => simp [intOf] <;> omega
      · obtain rfl : d' = 0 := by rw [← HD2.out]; exact getD_over (by rw [HL'.out]; omega)
        obtain rfl : t = z := by have := HE.out.2.2; omega
        clear hz
        go_wp2_with fail
        go_roundw
        case rel =>
          refine ⟨k + 1, bo', _, by omega, by go_num, val_int (by have := HZ.out; omega), hbo2, ?_, ?_, HNEW, HSET, ?_⟩
          · show _ = _; rw [List.length_set]; exact hL.out
          · exact hD.out.set hs2 k
          · exact hw.out.setCell (Nat.le_refl _) _
        case measure => simp [intOf] <;> omega
    · obtain rfl : k = n := by omega
      have HVL : Hid (bo = 0 ∧ valB 4294967296 L = x - y) := by
        have h2 := hI.out
        rw [List.take_of_length_le (by rw [hL.out]; omega), List.take_of_length_le (l := xs) (by rw [HL.out]; omega), List.take_of_length_le (l := ys) (by rw [HL'.out]; omega), HV.out, HV'.out] at h2
        have h3 := valB_lt hD.out
        rw [hL.out] at h3
        rcases Nat.eq_zero_or_pos bo with h4 | h4
        · subst h4; exact ⟨rfl, by omega⟩
        · obtain rfl : bo = 1 := by omega
          exfalso; omega
      go_wp2_with fail
      refine (NTRIM_blk _ _ _ _ _ hb hL (by unfold maxLen; omega) hD (Lib.hid HVL.out.2)).mono ?_
      rintro e w1 ⟨⟨m, rfl, h1, h2⟩, rfl⟩
      have H1 := Lib.hid h1
      clear h1
      go_wp2_with fail
      go_ret
      exact ⟨_, _, _, rfl, H1.out, h2, hw.out.mono (by rw [HG.out]; exact Nat.le_refl _)⟩
end Go.Proofs.YtkmcohnhanphdaaGreatDoor
