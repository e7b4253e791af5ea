/- num.Nat: trim, small, natOf, One. -/
import Derived.Test.YtcjdmffflepplaaDoorChecked
import Derived.Test.YtcjdmffflepplaaDoorNm
import Derived.IntWalk
import Derived.PlainAid
import Derived.Laws.BitsAllLaws
import Derived.Deep.QuietTactic
import Derived.BigQuiet
import Derived.RegionTactic
set_option linter.unusedSimpArgs false
set_option linter.unusedVariables false
namespace Go.Proofs.YtcjdmffflepplaaDoor
open Go.RowKit Go.Dw

theorem u32_info : (Tryd.prog.info? 73).map (fun i => (i.zero, i.size, i.bytes)) = some (some (.int .u32 0), 1, 4) := by kernel_rfl
set_option maxHeartbeats 400000 in
theorem NTRIM_row (A : Option Addr) (n c : Nat) (xs : List Nat) (w : World) (B : Nat) (hd : Hid (DigN 4294967296 xs)) (hh : Hid (RowAt .u32 73 w B A n xs)) (hc : n ≤ c ∧ c ≤ maxLen) :
    Calls Tryd.prog 73 #[.slice A n c] w fun e w' => (∃ m, e = .returned (.slice A m c) ∧ m ≤ n ∧ CanN 4294967296 (xs.take m) ∧ valB 4294967296 (xs.take m) = valB 4294967296 xs) ∧ w = w' := by
  have hl := Lib.hid hh.out.1
  obtain ⟨hc1, hc2⟩ := hc
  unfold maxLen at hc2
  go_enter Tryd.func73, Tryd.ntmps73
  go_wp2
  go_loop [0] (fun s => ∃ m : Nat, m ≤ n ∧ s = .slice A m c ∧ Hid (valB 4294967296 (xs.take m) = valB 4294967296 xs)) (fun s => match s with | .slice _ m _ => m | _ => 0)
  case atStart => exact ⟨n, Nat.le_refl _, rfl, by show _ = _; rw [List.take_of_length_le (by rw [hl.out]; exact Nat.le_refl _)]⟩
  case round =>
    obtain ⟨m, hm, rfl, hv⟩ := hrel
    by_cases h0 : 0 < m
    · obtain ⟨q, o, rfl, hq⟩ := hh.out.addr (by omega)
      have hcell := hh.out.cell (i := m - 1) (by omega)
      obtain ⟨d, hd9⟩ : ∃ d, xs.getD (m - 1) 0 = d := ⟨_, rfl⟩
      rw [hd9] at hcell
      have HD := Lib.hid hd9
      clear hd9
      obtain ⟨j, rfl⟩ : ∃ j, m = j + 1 := ⟨m - 1, by omega⟩
      rw [Nat.add_sub_cancel] at hcell
      by_cases hz : d = 0
      · subst hz
        go_wp2
        go_round
        case rel => exact ⟨j, by omega, rfl, by rw [← valB_take_zero (by rw [hl.out]; omega) (by simpa using HD.out)]; exact hv.out⟩
        case measure => simp
      · have hz1 : ((d : Int) == 0) = false := by simp; omega
        go_wp2
        go_ret
        exact ⟨⟨j + 1, rfl, hm, can_take hd.out (by rw [hl.out]; exact hm) (.inr (by rw [HD.out]; exact hz)), hv.out⟩, rfl⟩
    · obtain rfl : m = 0 := by omega
      go_wp2
      go_ret
      exact ⟨⟨0, rfl, Nat.zero_le _, can_take hd.out (Nat.zero_le _) (.inl rfl), hv.out⟩, rfl⟩
/-- what a walk hands back: a number, in the memory of its own or of what came in -/
def OutN (w : World) (x k : Nat) (e : Ending) (w' : World) : Prop := ∃ A n c, e = .returned (.slice A n c) ∧ NumAt .u32 73 4294967296 w' w'.heap.size A n c x ∧ n ≤ k ∧ Below w.heap.size w w'
/-- trim of a block of the call's own -/
theorem NTRIM_blk (g n : Nat) (L : List Nat) (x : Nat) (w : World) (hb : Hid (BlkN .u32 73 w g L)) (hn : Hid (L.length = n)) (hm : n ≤ maxLen) (hd : Hid (DigN 4294967296 L)) (hx : Hid (valB 4294967296 L = x)) :
    Calls Tryd.prog 73 #[.slice (some ⟨g, 0, none⟩) n n] w fun e w' => (∃ m, e = .returned (.slice (some ⟨g, 0, none⟩) m n) ∧ NumAt .u32 73 4294967296 w w.heap.size (some ⟨g, 0, none⟩) m n x ∧ m ≤ n) ∧ w = w' := by
  have hr : RowAt .u32 73 w w.heap.size (some ⟨g, 0, none⟩) n L := by rw [← hn.out]; exact hb.out.row hb.out.lt
  refine (NTRIM_row _ n n L w _ hd (Lib.hid hr) ⟨Nat.le_refl _, hm⟩).mono ?_
  rintro e w' ⟨⟨m, rfl, h1, h2, h3⟩, rfl⟩
  exact ⟨⟨m, rfl, ⟨h1, hm, _, h2, h3.trans hx.out, hr.take h1⟩, h1⟩, rfl⟩
theorem blk2 (w : World) (x : Nat) : BlkN .u32 73 (w.alloc (.cells #[.int .u32 ((x : Int) % 4294967296), .int .u32 ((x : Int) / 4294967296)] 73)) w.heap.size [x % 4294967296, x / 4294967296] := by
  have h := BlkN.mk .u32 73 w [x % 4294967296, x / 4294967296]
  simpa [cellsN] using h
set_option maxHeartbeats 400000 in
theorem NATOF_any (x : Nat) (hx : x < 18446744073709551616) (w : World) : Calls Tryd.prog 49 #[.int .u64 x] w (OutN w x 2) := by
  have hb := Lib.hid (blk2 w x)
  have hbw := Lib.hid ((Below.refl w.heap.size w).alloc (Nat.le_refl _) (.cells #[.int .u32 ((x : Int) % 4294967296), .int .u32 ((x : Int) / 4294967296)] 73))
  go_enter Tryd.func49, Tryd.ntmps49
  go_wp2_with fail
  refine (NTRIM_blk _ 2 _ x _ hb rfl (by decide) (DigN.cons (by omega) (DigN.cons (by omega) (DigN.nil _))) (by show _ = _; simp [valB]; omega)).mono ?_
  rintro e w1 ⟨⟨m, rfl, h1, h2⟩, rfl⟩
  have H1 := Lib.hid h1
  clear h1
  go_wp2_with fail
  go_ret
  exact ⟨_, _, _, rfl, H1.out, h2, hbw.out⟩
theorem canon1 (b x : Nat) (h : x < b) (h0 : 0 < x) : CanN b [x] := ⟨DigN.cons h (DigN.nil _), by simp; omega⟩
set_option maxHeartbeats 400000 in
theorem NONE_any (w : World) : Calls Tryd.prog 46 #[] w (OutN w 1 1) := by
  have hb : Hid (BlkN .u32 73 (w.alloc (.cells #[.int .u32 1] 73)) w.heap.size [1]) := BlkN.mk .u32 73 w [1]
  have hbw := Lib.hid ((Below.refl w.heap.size w).alloc (Nat.le_refl _) (.cells #[.int .u32 1] 73))
  go_enter Tryd.func46, Tryd.ntmps46
  go_wp2
  go_ret
  exact ⟨_, _, _, rfl, ⟨Nat.le_refl _, by decide, _, canon1 _ 1 (by omega) (by omega), by simp [valB], hb.out.row hb.out.lt⟩, Nat.le_refl _, hbw.out⟩
theorem or_join (lo hi : Nat) (hl : lo < 4294967296) (hh : hi < 4294967296) : bits .or .u64 (lo : Int) ((hi : Int) * 4294967296) = ((lo + 4294967296 * hi : Nat) : Int) := by
  have h := u64_or_nat lo (hi * 4294967296) (by omega) (by omega)
  rw [nat_join32' (hi * 4294967296) lo (by omega) hl] at h
  rw [show ((hi * 4294967296 : Nat) : Int) = (hi : Int) * 4294967296 by omega] at h
  rw [h]; omega
theorem or_join' (lo hi : Nat) (hl : lo < 4294967296) (hh : hi < 4294967296) : bits .or .u64 ((hi : Int) * 4294967296) (lo : Int) = ((lo + 4294967296 * hi : Nat) : Int) := by
  have h := u64_or_nat (hi * 4294967296) lo (by omega) (by omega)
  rw [nat_join32 (hi * 4294967296) lo (by omega) hl] at h
  rw [show ((hi * 4294967296 : Nat) : Int) = (hi : Int) * 4294967296 by omega] at h
  rw [h]; omega
/-- a number of less than 65 bits, and whether it is one -/
def smallN (x : Nat) : Nat × Bool := if x < 18446744073709551616 then (x, true) else (0, false)
set_option maxHeartbeats 1000000 in
theorem NSMALL_any (A : Option Addr) (n c x : Nat) (w : World) (B : Nat) (hh : Hid (NumAt .u32 73 4294967296 w B A n c x)) :
    Calls Tryd.prog 61 #[.slice A n c] w fun e w' => e = .returned (.tuple #[.int .u64 (smallN x).1, .bool (smallN x).2]) ∧ ∃ q, w' = w.drewN q := by
  obtain ⟨hc1, hc2, xs, hx, hv, hr⟩ := hh.out
  have hl := hr.1
  unfold maxLen at hc2
  have HX := Lib.hid hx
  have HV := Lib.hid hv
  have HR := Lib.hid hr
  clear hx hv hr
  by_cases h0 : n = 0
  · subst h0
    have HS : Hid (smallN x = (0, true)) := by
      show _ = _
      rw [List.eq_nil_of_length_eq_zero hl] at HV
      rw [← HV.out]; rfl
    clear hl
    go_enter Tryd.func61, Tryd.ntmps61
    go_wp2_with fail
    go_ret2
    exact ⟨by rw [HS.out]; rfl, 0, rfl⟩
  by_cases h1 : n = 1
  · subst h1
    obtain ⟨d, rfl⟩ : ∃ d, xs = [d] := by
      match xs, hl with
      | [d], _ => exact ⟨d, rfl⟩
    obtain ⟨q, o, rfl, hq⟩ := HR.out.addr (by omega)
    have hcell : w.cell? ⟨q, o, none⟩ = some (.int .u32 d) := HR.out.cell (i := 0) (by omega)
    have hd : d < 4294967296 := HX.out.1 d (by simp)
    have HS : Hid (smallN x = (d, true)) := by
      show _ = _
      rw [← HV.out, valB_single]; unfold smallN; rw [if_pos (by omega)]
    clear hl
    go_enter Tryd.func61, Tryd.ntmps61
    go_wp2_with fail
    go_ret2
    exact ⟨by rw [HS.out]; rfl, 0, rfl⟩
  by_cases h2 : n = 2
  · subst h2
    obtain ⟨d, d', rfl⟩ : ∃ d d', xs = [d, d'] := by
      match xs, hl with
      | [d, d'], _ => exact ⟨d, d', rfl⟩
    obtain ⟨q, o, rfl, hq⟩ := HR.out.addr (by omega)
    have hcell : w.cell? ⟨q, o, none⟩ = some (.int .u32 d) := HR.out.cell (i := 0) (by omega)
    have hcell2 : w.cell? ⟨q, o + 1, none⟩ = some (.int .u32 d') := HR.out.cell (i := 1) (by omega)
    have hd : d < 4294967296 := HX.out.1 d (by simp)
    have hd' : d' < 4294967296 := HX.out.1 d' (by simp)
    have HS : Hid (smallN x = (d + 4294967296 * d', true)) := by
      show _ = _
      rw [← HV.out]; simp only [valB]; unfold smallN; rw [if_pos (by omega)]; rfl
    clear hl
    go_enter Tryd.func61, Tryd.ntmps61
    go_wp2_with fail
    go_quiet (fail)
    go_wp2_with fail
    go_ret2
    refine ⟨?_, _, rfl⟩
    rw [HS.out, ← or_join d d' hd hd']
    rfl
  · have HS : Hid (smallN x = (0, false)) := by
      show _ = _
      have h9 := HX.out.ge (by intro e; rw [e] at hl; simp at hl; omega)
      have h8 := Nat.pow_le_pow_right (show 0 < 4294967296 by omega) (show 2 ≤ xs.length - 1 by omega)
      rw [HV.out] at h9
      unfold smallN; rw [if_neg (by omega)]
    have k0 : ((n : Int) == 0) = false := by simp; omega
    have k1 : ((n : Int) == 1) = false := by simp; omega
    have k2 : ((n : Int) == 2) = false := by simp; omega
    clear hl
    go_enter Tryd.func61, Tryd.ntmps61
    go_wp2_with fail
    go_ret2
    exact ⟨by rw [HS.out]; rfl, 0, rfl⟩
end Go.Proofs.YtcjdmffflepplaaDoor
