/- num.Nat: Cmp. -/
import Derived.Test.YtcjdmffflepplaaDoorNtrim
set_option linter.unusedSimpArgs false
set_option linter.unusedVariables false
namespace Go.Proofs.YtcjdmffflepplaaDoor
open Go.RowKit Go.Dw

def cmpN (x y : Nat) : Int := if x < y then -1 else if x = y then 0 else 1
theorem cmpN_lt {x y : Nat} (h : x < y) : cmpN x y = -1 := by unfold cmpN; rw [if_pos h]
theorem cmpN_gt {x y : Nat} (h : y < x) : cmpN x y = 1 := by unfold cmpN; rw [if_neg (by omega), if_neg (by omega)]
theorem cmpN_eq {x y : Nat} (h : x = y) : cmpN x y = 0 := by unfold cmpN; rw [if_neg (by omega), if_pos h]
theorem drewN_more {w wr : World} (h : ∃ q, wr = w.drewN q) (k : Nat) : ∃ q, wr.drewN k = w.drewN q := by
  obtain ⟨q, rfl⟩ := h
  exact ⟨q + k, by simp [World.drewN, Nat.add_assoc]⟩
set_option maxHeartbeats 1000000 in
theorem NCMP_any (A A' : Option Addr) (n c x n' c' y : Nat) (w : World) (B : Nat) (hh : Hid (NumAt .u32 73 4294967296 w B A n c x)) (hh' : Hid (NumAt .u32 73 4294967296 w B A' n' c' y)) :
    Calls Tryd.prog 56 #[.slice A n c, .slice A' n' c'] w fun e w' => e = .returned (.int .i64 (cmpN x y)) ∧ ∃ q, w' = w.drewN q := by
  obtain ⟨hc1, hc2, xs, hx, hv, hr⟩ := hh.out
  obtain ⟨hc1', hc2', ys, hx', hv', hr'⟩ := hh'.out
  have hl := hr.1
  have hl' := hr'.1
  unfold maxLen at hc2 hc2'
  have HX := Lib.hid hx
  have HV := Lib.hid hv
  have HR := Lib.hid hr
  have HX' := Lib.hid hx'
  have HV' := Lib.hid hv'
  have HR' := Lib.hid hr'
  have HL := Lib.hid hl
  have HL' := Lib.hid hl'
  clear hx hv hr hx' hv' hr' hl hl'
  by_cases h1 : n < n'
  · have HS : Hid (cmpN x y = -1) := by
      show _ = _
      refine cmpN_lt ?_
      rw [← HV.out, ← HV'.out]
      exact CanN.lt_len (by omega) HX.out HX'.out (by rw [HL.out, HL'.out]; exact h1)
    have k0 : ((n : Int) != (n' : Int)) = true := by simp; omega
    go_enter Tryd.func56, Tryd.ntmps56
    go_wp2_with fail
    go_ret
    exact ⟨by rw [HS.out]; rfl, 0, rfl⟩
  by_cases h2 : n' < n
  · have HS : Hid (cmpN x y = 1) := by
      show _ = _
      refine cmpN_gt ?_
      rw [← HV.out, ← HV'.out]
      exact CanN.lt_len (by omega) HX'.out HX.out (by rw [HL.out, HL'.out]; exact h2)
    have k0 : ((n : Int) != (n' : Int)) = true := by simp; omega
    go_enter Tryd.func56, Tryd.ntmps56
    go_wp2_with fail
    go_ret
    exact ⟨by rw [HS.out]; rfl, 0, rfl⟩
  obtain rfl : n = n' := by omega
  clear h1 h2
  have k0 : ((n : Int) != (n : Int)) = false := by simp
  go_enter Tryd.func56, Tryd.ntmps56
  go_wp2_with fail
  go_loopw [5] (fun i wr => ∃ (k : Nat) (z : Int), k ≤ n ∧ i = .int .i64 z ∧ Hid (z = (k : Int) - 1) ∧ Hid (xs.drop k = ys.drop k) ∧ Hid (∃ q, wr = w.drewN q)) (fun i _ => (intOf i + 1).toNat)
  case atStart => exact ⟨n, _, Nat.le_refl _, rfl, rfl, (by show _ = _; rw [List.drop_of_length_le (by rw [HL.out]; exact Nat.le_refl _), List.drop_of_length_le (by rw [HL'.out]; exact Nat.le_refl _)]), ⟨0, rfl⟩⟩
  case round =>
    obtain ⟨k, z, hk, rfl, hz, hd, hw⟩ := hrel
    by_cases h0 : 0 < k
    · obtain ⟨j, rfl⟩ : ∃ j, k = j + 1 := ⟨k - 1, by omega⟩
      obtain rfl : z = (j : Int) := by have := hz.out; omega
      obtain ⟨q, o, rfl, hq⟩ := HR.out.addr (by omega)
      obtain ⟨q', o', rfl, hq'⟩ := HR'.out.addr (by omega)
      have hcell : wr.cell? ⟨q, o + j, none⟩ = some (.int .u32 (xs.getD j 0 : Nat)) := by obtain ⟨t, rfl⟩ := hw.out; exact HR.out.cell (i := j) (by omega)
      have hcell' : wr.cell? ⟨q', o' + j, none⟩ = some (.int .u32 (ys.getD j 0 : Nat)) := by obtain ⟨t, rfl⟩ := hw.out; exact HR'.out.cell (i := j) (by omega)
      obtain ⟨d, hd1⟩ : ∃ d, xs.getD j 0 = d := ⟨_, rfl⟩
      obtain ⟨d', hd2⟩ : ∃ d, ys.getD j 0 = d := ⟨_, rfl⟩
      rw [hd1] at hcell
      rw [hd2] at hcell'
      have HD := Lib.hid hd1
      have HD' := Lib.hid hd2
      have hj : (0 : Int) ≤ (j : Int) ∧ (j : Int) < (n : Int) := by omega
      obtain ⟨hj1, hj2⟩ := hj
      clear hd1 hd2 hz
      by_cases he : d = d'
      · subst he
        have ke : ((d : Int) != (d : Int)) = false := by simp
        go_wp2_with fail
        go_quiet (fail)
        go_wp2_with fail
        go_roundw
        case rel =>
          refine ⟨j, _, by omega, rfl, by show _ = _; omega, ?_, drewN_more hw.out nq⟩
          show _ = _
          rw [drop_getD (by rw [HL.out]; omega), drop_getD (l := ys) (by rw [HL'.out]; omega), hd.out, HD.out, HD'.out]
        case measure => simp [intOf] <;> omega
      · have ke : ((d : Int) != (d' : Int)) = true := by simp; omega
        have hlt := fun h => valB_lt_at HX.out.1 HX'.out.1 (by rw [HL.out, HL'.out]) (i := j) (by rw [HL.out]; omega) hd.out h
        have hgt := fun h => valB_lt_at HX'.out.1 HX.out.1 (by rw [HL.out, HL'.out]) (i := j) (by rw [HL'.out]; omega) hd.out.symm h
        rw [HD.out, HD'.out, HV.out, HV'.out] at hlt hgt
        by_cases hdd : d < d'
        · have HS : Hid (cmpN x y = -1) := cmpN_lt (hlt hdd)
          clear hlt hgt
          go_wp2_with fail
          go_quiet (fail)
          go_wp2_with fail
          go_quiet (fail)
          go_wp2_with fail
          go_ret
          exact ⟨by rw [HS.out]; rfl, drewN_more (drewN_more hw.out _) _⟩
        · have HS : Hid (cmpN x y = 1) := cmpN_gt (hgt (by omega))
          clear hlt hgt
          go_wp2_with fail
          go_quiet (fail)
          go_wp2_with fail
          go_quiet (fail)
          go_wp2_with fail
          go_ret
          exact ⟨by rw [HS.out]; rfl, drewN_more (drewN_more hw.out _) _⟩
    · obtain rfl : k = 0 := by omega
      obtain rfl : z = -1 := by have := hz.out; omega
      have HS : Hid (cmpN x y = 0) := by
        refine cmpN_eq ?_
        have := hd.out
        rw [List.drop_zero, List.drop_zero] at this
        rw [← HV.out, ← HV'.out, this]
      go_wp2_with fail
      go_ret
      exact ⟨by rw [HS.out]; rfl, hw.out⟩
end Go.Proofs.YtcjdmffflepplaaDoor
