/- The document's limbs: trim, compare. -/
import Derived.Test.YtocbogdjlapogaaGreatDoorYc
import Derived.Test.YtocbogdjlapogaaGreatDoorYb
set_option linter.unusedSimpArgs false
set_option linter.unusedVariables false
namespace Go.Proofs.YtocbogdjlapogaaGreatDoor
open Go.RowKit Go.Dw
theorem int_info : (Tryz.prog.info? 3).map (fun i => (i.zero, i.size, i.bytes)) = some (some (.int .i64 0), 1, 8) := by kernel_rfl
/-- a number in limbs of four digits -/
abbrev LimAt (w : World) (B : Nat) (A : Option Addr) (n c x : Nat) : Prop := NumAt .i64 3 10000 w B A n c x
def OutL (w : World) (x k : Nat) (e : Ending) (w' : World) : Prop := ∃ A n c, e = .returned (.slice A n c) ∧ LimAt w' w'.heap.size A n c x ∧ n ≤ k ∧ Below w.heap.size w w'
set_option maxHeartbeats 400000 in
theorem RTRIM_row (A : Option Addr) (n c : Nat) (xs : List Nat) (w : World) (B : Nat) (hd : Hid (DigN 10000 xs)) (hh : Hid (RowAt .i64 3 w B A n xs)) (hc : n ≤ c ∧ c ≤ maxLen) :
    Calls Tryz.prog 60 #[.slice A n c] w fun e w' => (∃ m, e = .returned (.slice A m c) ∧ m ≤ n ∧ CanN 10000 (xs.take m) ∧ valB 10000 (xs.take m) = valB 10000 xs) ∧ w = w' := by
  have hl := Lib.hid hh.out.1
  obtain ⟨hc1, hc2⟩ := hc
  unfold maxLen at hc2
  go_enter Tryz.func60, Tryz.ntmps60
  go_wp2
  go_loop [3] (fun s => ∃ m : Nat, m ≤ n ∧ s = .int .i64 m ∧ Hid (valB 10000 (xs.take m) = valB 10000 xs)) (fun s => (intOf s).toNat)
  case atStart => exact ⟨n, Nat.le_refl _, rfl, by show _ = _; rw [List.take_of_length_le (by rw [hl.out]; exact Nat.le_refl _)]⟩
  case round =>
    obtain ⟨m, hm, rfl, hv⟩ := hrel
    by_cases h0 : 0 < m
    · obtain ⟨q, o, rfl, hq⟩ := hh.out.addr (by omega)
      have hcell := hh.out.cell (i := m - 1) (by omega)
      obtain ⟨d, hd9⟩ : ∃ d, xs.getD (m - 1) 0 = d := ⟨_, rfl⟩
      rw [hd9] at hcell
      have HD := Lib.hid hd9
      clear hd9
      obtain ⟨j, rfl⟩ : ∃ j, m = j + 1 := ⟨m - 1, by omega⟩
      rw [Nat.add_sub_cancel] at hcell
      have hji : ((j + 1 : Nat) : Int) - 1 = (j : Int) := by omega
      by_cases hz : d = 0
      · subst hz
        go_wp2
        go_round
        case rel => exact ⟨j, by omega, by go_num, by rw [← valB_take_zero (by rw [hl.out]; omega) (by simpa using HD.out)]; exact hv.out⟩
        case measure => simp [intOf] <;> omega
      · have hz1 : ((d : Int) == 0) = false := by simp; omega
        go_wp2
        go_ret
        exact ⟨⟨j + 1, rfl, hm, can_take hd.out (by rw [hl.out]; exact hm) (.inr (by rw [Nat.add_sub_cancel]; rw [Nat.add_sub_cancel] at HD; rw [HD.out]; exact hz)), hv.out⟩, rfl⟩
    · obtain rfl : m = 0 := by omega
      go_wp2
      go_ret
      exact ⟨⟨0, rfl, Nat.zero_le _, can_take hd.out (Nat.zero_le _) (.inl rfl), hv.out⟩, rfl⟩
/-- trim of a row of the call's own -/
theorem RTRIM_own (A : Option Addr) (n c : Nat) (L : List Nat) (x : Nat) (w : World) (B : Nat) (hb : Hid (OwnN .i64 3 w B A n c L)) (hd : Hid (DigN 10000 L)) (hx : Hid (valB 10000 L = x)) :
    Calls Tryz.prog 60 #[.slice A n c] w fun e w' => (∃ m, e = .returned (.slice A m c) ∧ LimAt w w.heap.size A m c x ∧ m ≤ n) ∧ w = w' := by
  have hf := hb.out.form
  refine (RTRIM_row _ n c L w _ hd (Lib.hid hb.out.row) hf).mono ?_
  rintro e w' ⟨⟨m, rfl, h1, h2, h3⟩, rfl⟩
  exact ⟨⟨m, rfl, ⟨Nat.le_trans h1 hf.1, hf.2, _, h2, h3.trans hx.out, hb.out.row.take h1⟩, h1⟩, rfl⟩
theorem RTRIM_blk (g n : Nat) (L : List Nat) (x : Nat) (w : World) (hb : Hid (BlkN .i64 3 w g L)) (hn : Hid (L.length = n)) (hm : n ≤ maxLen) (hd : Hid (DigN 10000 L)) (hx : Hid (valB 10000 L = x)) :
    Calls Tryz.prog 60 #[.slice (some ⟨g, 0, none⟩) n n] w fun e w' => (∃ m, e = .returned (.slice (some ⟨g, 0, none⟩) m n) ∧ LimAt w w.heap.size (some ⟨g, 0, none⟩) m n x ∧ m ≤ n) ∧ w = w' := by
  have hr : RowAt .i64 3 w w.heap.size (some ⟨g, 0, none⟩) n L := by rw [← hn.out]; exact hb.out.row hb.out.lt
  refine (RTRIM_row _ n n L w _ hd (Lib.hid hr) ⟨Nat.le_refl _, hm⟩).mono ?_
  rintro e w' ⟨⟨m, rfl, h1, h2, h3⟩, rfl⟩
  exact ⟨⟨m, rfl, ⟨h1, hm, _, h2, h3.trans hx.out, hr.take h1⟩, h1⟩, rfl⟩
set_option maxHeartbeats 1000000 in
theorem RCMP_any (A A' : Option Addr) (n c x n' c' y : Nat) (w : World) (B : Nat) (hh : Hid (LimAt w B A n c x)) (hh' : Hid (LimAt w B A' n' c' y)) :
    Calls Tryz.prog 43 #[.slice A n c, .slice A' n' c'] w fun e w' => e = .returned (.int .i64 (cmpN x y)) ∧ Below w.heap.size w w' := by
  refine Calls.mono (R := fun e w' => e = .returned (.int .i64 (cmpN x y)) ∧ ∃ q, w' = w.drewN q) ?_ fun e w' ⟨h1, q, h2⟩ => ⟨h1, by rw [h2]; exact belowN (Below.refl _ _) q⟩
  obtain ⟨hc1, hc2, xs, hx, hv, hr⟩ := hh.out
  obtain ⟨hc1', hc2', ys, hx', hv', hr'⟩ := hh'.out
  have hl := hr.1
  have hl' := hr'.1
  unfold maxLen at hc2 hc2'
  have HX := Lib.hid hx
  have HV := Lib.hid hv
  have HR := Lib.hid hr
  have HX' := Lib.hid hx'
  have HV' := Lib.hid hv'
  have HR' := Lib.hid hr'
  have HL := Lib.hid hl
  have HL' := Lib.hid hl'
  clear hx hv hr hx' hv' hr' hl hl'
  by_cases h1 : n < n'
  · have HS : Hid (cmpN x y = -1) := by
      show _ = _
      refine cmpN_lt ?_
      rw [← HV.out, ← HV'.out]
      exact CanN.lt_len (by omega) HX.out HX'.out (by rw [HL.out, HL'.out]; exact h1)
    have k0 : ((n : Int) != (n' : Int)) = true := by simp; omega
    go_enter Tryz.func43, Tryz.ntmps43
    go_wp2_with fail
    go_ret
    exact ⟨by rw [HS.out]; rfl, 0, rfl⟩
  by_cases h2 : n' < n
  · have HS : Hid (cmpN x y = 1) := by
      show _ = _
      refine cmpN_gt ?_
      rw [← HV.out, ← HV'.out]
      exact CanN.lt_len (by omega) HX'.out HX.out (by rw [HL.out, HL'.out]; exact h2)
    have k0 : ((n : Int) != (n' : Int)) = true := by simp; omega
    go_enter Tryz.func43, Tryz.ntmps43
    go_wp2_with fail
    go_ret
    exact ⟨by rw [HS.out]; rfl, 0, rfl⟩
  obtain rfl : n = n' := by omega
  clear h1 h2
  have k0 : ((n : Int) != (n : Int)) = false := by simp
  go_enter Tryz.func43, Tryz.ntmps43
  go_wp2_with fail
  go_loopw [5] (fun i wr => ∃ (k : Nat) (z : Int), k ≤ n ∧ i = .int .i64 z ∧ Hid (z = (k : Int) - 1) ∧ Hid (xs.drop k = ys.drop k) ∧ Hid (∃ q, wr = w.drewN q)) (fun i _ => (intOf i + 1).toNat)
  case atStart => exact ⟨n, _, Nat.le_refl _, rfl, rfl, (by show _ = _; rw [List.drop_of_length_le (by rw [HL.out]; exact Nat.le_refl _), List.drop_of_length_le (by rw [HL'.out]; exact Nat.le_refl _)]), ⟨0, rfl⟩⟩
  case round =>
    obtain ⟨k, z, hk, rfl, hz, hd, hw⟩ := hrel
    by_cases h0 : 0 < k
    · obtain ⟨j, rfl⟩ : ∃ j, k = j + 1 := ⟨k - 1, by omega⟩
      obtain rfl : z = (j : Int) := by have := hz.out; omega
      obtain ⟨q, o, rfl, hq⟩ := HR.out.addr (by omega)
      obtain ⟨q', o', rfl, hq'⟩ := HR'.out.addr (by omega)
      have hcell : wr.cell? ⟨q, o + j, none⟩ = some (.int .i64 (xs.getD j 0 : Nat)) := by obtain ⟨t, rfl⟩ := hw.out; exact HR.out.cell (i := j) (by omega)
      have hcell' : wr.cell? ⟨q', o' + j, none⟩ = some (.int .i64 (ys.getD j 0 : Nat)) := by obtain ⟨t, rfl⟩ := hw.out; exact HR'.out.cell (i := j) (by omega)
      obtain ⟨d, hd1⟩ : ∃ d, xs.getD j 0 = d := ⟨_, rfl⟩
      obtain ⟨d', hd2⟩ : ∃ d, ys.getD j 0 = d := ⟨_, rfl⟩
      rw [hd1] at hcell
      rw [hd2] at hcell'
      have HD := Lib.hid hd1
      have HD' := Lib.hid hd2
      have hj : (0 : Int) ≤ (j : Int) ∧ (j : Int) < (n : Int) := by omega
      obtain ⟨hj1, hj2⟩ := hj
      clear hd1 hd2 hz
      by_cases hlt9 : d < d'
      · have HS : Hid (cmpN x y = -1) := by
          have := valB_lt_at HX.out.1 HX'.out.1 (by rw [HL.out, HL'.out]) (i := j) (by rw [HL.out]; omega) hd.out (by rw [HD.out, HD'.out]; exact hlt9)
          rw [HV.out, HV'.out] at this
          exact cmpN_lt this
        go_wp2_with fail
        go_quiet (fail)
        go_wp2_with fail
        go_ret
        exact ⟨by rw [HS.out]; rfl, drewN_more hw.out _⟩
      by_cases hgt9 : d' < d
      · have HS : Hid (cmpN x y = 1) := by
          have := valB_lt_at HX'.out.1 HX.out.1 (by rw [HL.out, HL'.out]) (i := j) (by rw [HL'.out]; omega) hd.out.symm (by rw [HD.out, HD'.out]; exact hgt9)
          rw [HV.out, HV'.out] at this
          exact cmpN_gt this
        go_wp2_with fail
        go_quiet (fail)
        go_wp2_with fail
        go_quiet (fail)
        go_wp2_with fail
        go_ret
        exact ⟨by rw [HS.out]; rfl, drewN_more (drewN_more hw.out _) _⟩
      · obtain rfl : d = d' := by omega
        go_wp2_with fail
        go_quiet (fail)
        go_wp2_with fail
        go_quiet (fail)
        go_wp2_with fail
        go_roundw
        case rel =>
          refine ⟨j, _, by omega, rfl, by show _ = _; omega, ?_, drewN_more hw.out _⟩
          show _ = _
          rw [drop_getD (by rw [HL.out]; omega), drop_getD (l := ys) (by rw [HL'.out]; omega), hd.out, HD.out, HD'.out]
        case measure => simp [intOf] <;> omega
    · obtain rfl : k = 0 := by omega
      obtain rfl : z = -1 := by have := hz.out; omega
      have HS : Hid (cmpN x y = 0) := by
        refine cmpN_eq ?_
        have := hd.out
        rw [List.drop_zero, List.drop_zero] at this
        rw [← HV.out, ← HV'.out, this]
      go_wp2_with fail
      go_ret
      exact ⟨by rw [HS.out]; rfl, hw.out⟩
end Go.Proofs.YtocbogdjlapogaaGreatDoor

/- The document's limbs: less, times, small. -/
set_option linter.unusedSimpArgs false
set_option linter.unusedVariables false
namespace Go.Proofs.YtocbogdjlapogaaGreatDoor
open Go.RowKit Go.Dw
theorem sub_snoc {b k c s c' : Nat} {L X Y : List Nat} (hL : L.length = k) (hs : s + Y.getD k 0 + c = X.getD k 0 + b * c')
    (h : valB b L + valB b (Y.take k) = valB b (X.take k) + b ^ k * c) :
    valB b (L ++ [s]) + valB b (Y.take (k + 1)) = valB b (X.take (k + 1)) + b ^ (k + 1) * c' := by
  have h1 := congrArg (b ^ k * ·) hs
  simp only [Nat.mul_add] at h1
  rw [valB_snoc, valB_take_succ', valB_take_succ', hL, Nat.pow_succ, Nat.mul_assoc]
  omega
theorem add_snoc {b k c s : Nat} {L X Y : List Nat} (hL : L.length = k) (hs : s = c + X.getD k 0 + Y.getD k 0)
    (h : valB b L + b ^ k * c = valB b (X.take k) + valB b (Y.take k)) :
    valB b (L ++ [s % b]) + b ^ (k + 1) * (s / b) = valB b (X.take (k + 1)) + valB b (Y.take (k + 1)) := by
  have h1 := congrArg (b ^ k * ·) (mod_add_div' b s)
  have h2 := congrArg (b ^ k * ·) hs
  simp only [Nat.mul_add] at h1 h2
  rw [valB_snoc, valB_take_succ', valB_take_succ', hL, Nat.pow_succ, Nat.mul_assoc]
  omega
set_option maxRecDepth 100000 in
set_option maxHeartbeats 2000000 in
theorem RLESS_any (A A' : Option Addr) (n c x n' c' y : Nat) (hn : n ≤ 1000000000) (hle : y ≤ x) (w : World) (B : Nat) (hB : B ≤ w.heap.size) (hh : Hid (LimAt w B A n c x)) (hh' : Hid (LimAt w B A' n' c' y)) :
    Calls Tryz.prog 44 #[.slice A n c, .slice A' n' c'] w (OutL w (x - y) n) := by
  obtain ⟨hc1, hc2, xs, hx, hv, hr⟩ := hh.out
  obtain ⟨hc1', hc2', ys, hx', hv', hr'⟩ := hh'.out
  have hl := hr.1
  have hl' := hr'.1
  unfold maxLen at hc2 hc2'
  have HX := Lib.hid hx
  have HV := Lib.hid hv
  have HR := Lib.hid hr
  have HX' := Lib.hid hx'
  have HV' := Lib.hid hv'
  have HR' := Lib.hid hr'
  have HL := Lib.hid hl
  have HL' := Lib.hid hl'
  clear hx hv hr hx' hv' hr' hl hl' hh hh'
  go_enter Tryz.func44, Tryz.ntmps44
  go_wp2_with fail
  go_loopw [5, 6, 7] (fun ov cv i wr => ∃ (k bo : Nat) (Ab : Option Addr) (cb : Nat) (L : List Nat), k ≤ n ∧ i = .int .i64 k ∧ cv = .int .i64 bo ∧ ov = .slice Ab k cb ∧ bo ≤ 1 ∧ Hid (OwnN .i64 3 wr w.heap.size Ab k cb L) ∧ Hid (DigN 10000 L) ∧ Hid (valB 10000 L + valB 10000 (ys.take k) = valB 10000 (xs.take k) + 10000 ^ k * bo) ∧ Hid (Below w.heap.size w wr)) (fun _ _ i _ => n - (intOf i).toNat)
  case atStart => exact ⟨0, 0, none, 0, [], Nat.zero_le _, rfl, rfl, rfl, Nat.zero_le _, OwnN.nil _ _ _ _, DigN.nil _, by show _ = _; simp [valB], Below.refl _ _⟩
  case round =>
    obtain ⟨k, bo, Ab, cb, L, hk, rfl, rfl, rfl, hcN, hown, hD, hI, hw⟩ := hrel
    have HRX := Lib.hid (HR.out.below hw.out hB)
    have HRY := Lib.hid (HR'.out.below hw.out hB)
    have hlk := Lib.hid hown.out.1
    by_cases hlt : k < n
    · obtain ⟨q, o, rfl, hq⟩ := HRX.out.addr (by omega)
      have hx := HRX.out.cell hlt
      have hdx := HX.out.1.get (by omega) k
      have hdy := HX'.out.1.get (by omega) k
      obtain ⟨d, hd1⟩ : ∃ d, xs.getD k 0 = d := ⟨_, rfl⟩
      obtain ⟨d', hd2⟩ : ∃ d, ys.getD k 0 = d := ⟨_, rfl⟩
      have HD1 := Lib.hid hd1
      have HD2 := Lib.hid hd2
      rw [hd1] at hx hdx
      rw [hd2] at hdy
      obtain ⟨t, ht⟩ : ∃ t, (d : Int) - (bo : Int) = t := ⟨_, rfl⟩
      obtain ⟨z, hz⟩ : ∃ z, t - (d' : Int) = z := ⟨_, rfl⟩
      obtain ⟨s, bo', hs⟩ : ∃ s bo' : Nat, s < 10000 ∧ bo' ≤ 1 ∧ (s : Int) = z + 10000 * bo' := by
        by_cases h : 0 ≤ z
        · exact ⟨z.toNat, 0, by omega, by omega, by omega⟩
        · exact ⟨(z + 10000).toNat, 1, by omega, by omega, by omega⟩
      obtain ⟨hs2, hbo2, hs3⟩ := hs
      have HNEW := Lib.hid (sub_snoc (b := 10000) (X := xs) (Y := ys) (s := s) (c' := bo') hlk.out (by rw [HD1.out, HD2.out]; omega) hI.out)
      have htt : -1 ≤ t ∧ t < 10000 := by omega
      have hzz : -10000 ≤ z ∧ z < 10000 := by omega
      obtain ⟨htt1, htt2⟩ := htt
      obtain ⟨hzz1, hzz2⟩ := hzz
      have HZ := Lib.hid hs3
      have hk0 : (0 : Int) ≤ (k : Int) ∧ (k : Int) < (n : Int) := by omega
      obtain ⟨hk0, hk1⟩ := hk0
      have HE := Lib.hid (And.intro ht hz)
      clear hd1 hd2 hs3
      by_cases hy : k < n'
      · obtain ⟨q', o', rfl, hq'⟩ := HRY.out.addr (by omega)
        have hy1 := HRY.out.cell hy
        rw [HD2.out] at hy1
        by_cases hneg : z < 0
        · have HB1 : Hid (bo' = 1) := by show _ = _; have := HZ.out; omega
          have hzs : z + 10000 = (s : Int) := by have := HZ.out; have := HB1.out; omega
          obtain rfl : bo' = 1 := HB1.out
          go_wp2_with (at_builtin; refine wpList_push_num rfl (.tmp 35) (.tmp 37) 48 3 .i64 8 rfl Tryz.underlying48 int_info w.heap.size Ab k cb L s _ (by omega) _ rfl rfl rfl hown.out (by omega) (by omega) hw.out.size ?_; intro g cap w3 p1 p2 p3)
          go_roundw
          case rel =>
            refine ⟨k + 1, 1, some ⟨g, 0, none⟩, cap, L ++ [s], by omega, by go_num, rfl, rfl, by omega, p1, ?_, HNEW, Lib.hid (hw.out.trans p2.out)⟩
            exact hD.out.snoc hs2
          case measure => simp [intOf] <;> omega
        · have HB1 : Hid (bo' = 0) := by show _ = _; have := HZ.out; omega
          obtain rfl : bo' = 0 := HB1.out
          obtain rfl : z = (s : Int) := by have := HZ.out; omega
          go_wp2_with (at_builtin; refine wpList_push_num rfl (.tmp 35) (.tmp 37) 48 3 .i64 8 rfl Tryz.underlying48 int_info w.heap.size Ab k cb L s _ (by omega) _ rfl rfl rfl hown.out (by omega) (by omega) hw.out.size ?_; intro g cap w3 p1 p2 p3)
          go_roundw
          case rel =>
            refine ⟨k + 1, 0, some ⟨g, 0, none⟩, cap, L ++ [s], by omega, by go_num, rfl, rfl, by omega, p1, ?_, HNEW, Lib.hid (hw.out.trans p2.out)⟩
            exact hD.out.snoc hs2
          case measure => simp [intOf] <;> omega
      · obtain rfl : d' = 0 := by rw [← HD2.out]; exact getD_over (by rw [HL'.out]; omega)
        obtain rfl : z = t := by have := HE.out.2; omega
        clear hz
        by_cases hneg : z < 0
        · have HB1 : Hid (bo' = 1) := by show _ = _; have := HZ.out; omega
          have hzs : z + 10000 = (s : Int) := by have := HZ.out; have := HB1.out; omega
          obtain rfl : bo' = 1 := HB1.out
          go_wp2_with (at_builtin; refine wpList_push_num rfl (.tmp 35) (.tmp 37) 48 3 .i64 8 rfl Tryz.underlying48 int_info w.heap.size Ab k cb L s _ (by omega) _ rfl rfl rfl hown.out (by omega) (by omega) hw.out.size ?_; intro g cap w3 p1 p2 p3)
          go_roundw
          case rel =>
            refine ⟨k + 1, 1, some ⟨g, 0, none⟩, cap, L ++ [s], by omega, by go_num, rfl, rfl, by omega, p1, ?_, HNEW, Lib.hid (hw.out.trans p2.out)⟩
            exact hD.out.snoc hs2
          case measure => simp [intOf] <;> omega
        · have HB1 : Hid (bo' = 0) := by show _ = _; have := HZ.out; omega
          obtain rfl : bo' = 0 := HB1.out
          obtain rfl : z = (s : Int) := by have := HZ.out; omega
          go_wp2_with (at_builtin; refine wpList_push_num rfl (.tmp 35) (.tmp 37) 48 3 .i64 8 rfl Tryz.underlying48 int_info w.heap.size Ab k cb L s _ (by omega) _ rfl rfl rfl hown.out (by omega) (by omega) hw.out.size ?_; intro g cap w3 p1 p2 p3)
          go_roundw
          case rel =>
            refine ⟨k + 1, 0, some ⟨g, 0, none⟩, cap, L ++ [s], by omega, by go_num, rfl, rfl, by omega, p1, ?_, HNEW, Lib.hid (hw.out.trans p2.out)⟩
            exact hD.out.snoc hs2
          case measure => simp [intOf] <;> omega
    · obtain rfl : k = n := by omega
      have HVL : Hid (bo = 0 ∧ valB 10000 L = x - y) := by
        have h2 := hI.out
        have hnn := HX'.out
        have hle2 : ys.length ≤ k := by
          have := CanN.len_le (by omega) HX'.out HX.out (by rw [HV.out, HV'.out]; exact hle)
          rw [HL.out] at this; exact this
        rw [List.take_of_length_le (l := xs) (by rw [HL.out]; omega), List.take_of_length_le (l := ys) hle2, HV.out, HV'.out] at h2
        have h3 := valB_lt hD.out
        rw [hlk.out] at h3
        rcases Nat.eq_zero_or_pos bo with h4 | h4
        · subst h4; exact ⟨rfl, by omega⟩
        · obtain rfl : bo = 1 := by omega
          exfalso; omega
      go_wp2_with fail
      refine (RTRIM_own _ _ _ _ _ _ _ hown hD (Lib.hid HVL.out.2)).mono ?_
      rintro e w1 ⟨⟨m, rfl, h1, h2⟩, rfl⟩
      have H1 := Lib.hid h1
      clear h1
      go_wp2_with fail
      go_ret
      exact ⟨_, _, _, rfl, H1.out, h2, hw.out⟩
end Go.Proofs.YtocbogdjlapogaaGreatDoor

/- The document's limbs: times, small. -/
set_option linter.unusedSimpArgs false
set_option linter.unusedVariables false
namespace Go.Proofs.YtocbogdjlapogaaGreatDoor
open Go.RowKit Go.Dw
theorem mkInts (n : Nat) (hn : n ≤ 1000000000000) (W : World) : (Instr.makeSlice 48 (.int .i64 (n : Int)) (.int .i64 (n : Int))).run Tryz.prog W = .ok (.slice (some ⟨W.heap.size, 0, none⟩) n n) (W.alloc (.cells (cellsN .i64 (List.replicate n 0)) 3)) := by
  obtain ⟨i0, hi, hz0, hz1, hz2⟩ := info_parts int_info
  exact run_makeN 48 3 i0 .i64 Tryz.underlying48 hi hz0 hz1 n (by rw [hz2]; omega) (by omega) W
theorem mkInts2 (n n' : Nat) (hn : n ≤ 400000000000) (hn' : n' ≤ 400000000000) (W : World) : (Instr.makeSlice 48 (.int .i64 ((n : Int) + (n' : Int))) (.int .i64 ((n : Int) + (n' : Int)))).run Tryz.prog W = .ok (.slice (some ⟨W.heap.size, 0, none⟩) (n + n') (n + n')) (W.alloc (.cells (cellsN .i64 (List.replicate (n + n') 0)) 3)) := by
  have := mkInts (n + n') (by omega) W
  rwa [show ((n + n' : Nat) : Int) = (n : Int) + (n' : Int) by omega] at this
theorem getDz (n p : Nat) : (List.replicate n 0).getD p 0 = 0 := by
  by_cases h : p < n
  · simp [List.getD, h]
  · exact getD_over (by simp; omega)
theorem tmodN (s b : Nat) : (s : Int).tmod (b : Int) = ((s % b : Nat) : Int) := rfl
theorem tdivN (s b : Nat) : (s : Int).tdiv (b : Int) = ((s / b : Nat) : Int) := rfl
set_option maxRecDepth 100000 in
set_option maxHeartbeats 4000000 in
theorem RTIMES_any (A A' : Option Addr) (n c x n' c' y : Nat) (hn : n ≤ 400000000000) (hn' : n' ≤ 400000000000) (w : World) (B : Nat) (hB : B ≤ w.heap.size) (hh : Hid (LimAt w B A n c x)) (hh' : Hid (LimAt w B A' n' c' y)) :
    Calls Tryz.prog 41 #[.slice A n c, .slice A' n' c'] w (OutL w (x * y) (n + n')) := by
  obtain ⟨hc1, hc2, xs, hx, hv, hr⟩ := hh.out
  obtain ⟨hc1', hc2', ys, hx', hv', hr'⟩ := hh'.out
  have hl := hr.1
  have hl' := hr'.1
  unfold maxLen at hc2 hc2'
  have HX := Lib.hid hx
  have HV := Lib.hid hv
  have HR := Lib.hid hr
  have HX' := Lib.hid hx'
  have HV' := Lib.hid hv'
  have HR' := Lib.hid hr'
  have HL := Lib.hid hl
  have HL' := Lib.hid hl'
  clear hx hv hr hx' hv' hr' hl hl' hh hh'
  have hmk := mkInts2 n n' hn hn'
  go_enter Tryz.func41, Tryz.ntmps41
  go_wp2_with fail
  obtain ⟨g, hg⟩ : ∃ g, g = w.heap.size := ⟨_, rfl⟩
  rw [← hg]
  have HG := Lib.hid (show w.heap.size ≤ g by rw [hg]; exact Nat.le_refl _)
  obtain ⟨W, hW⟩ : ∃ W, W = w.alloc (.cells (cellsN .i64 (List.replicate (n + n') 0)) 3) := ⟨_, rfl⟩
  have HB0 : Hid (BlkN .i64 3 W g (List.replicate (n + n') 0)) := by rw [hW, hg]; exact BlkN.mk _ _ _ _
  have HW0 : Hid (Below w.heap.size w W) := by show Below _ _ _; rw [hW]; exact (Below.refl _ _).alloc (Nat.le_refl _) _
  rw [← hW]
  clear hW hg hmk
  go_loopw [6] (fun i wr => ∃ (k : Nat) (L : List Nat), k ≤ n ∧ i = .int .i64 k ∧ Hid (L.length = n + n') ∧ Hid (DigN 10000 L) ∧ Hid (valB 10000 L = valB 10000 (xs.take k) * y) ∧ Hid (∀ p, k + n' ≤ p → L.getD p 0 = 0) ∧ Hid (BlkN .i64 3 wr g L) ∧ Hid (Below w.heap.size w wr)) (fun i _ => n - (intOf i).toNat)
  case atStart => exact ⟨0, _, Nat.zero_le _, rfl, by show _ = _; simp, DigN.zeros (by omega) _, by show _ = _; rw [valB_zeros]; simp [valB], fun p _ => getDz _ p, HB0, HW0⟩
  case round =>
    obtain ⟨k, L, hk, rfl, hL, hD, hI, hZ, hb, hw⟩ := hrel
    by_cases hlt : k < n
    · obtain ⟨wo, rfl⟩ : ∃ wo : World, wo = wr := ⟨_, rfl⟩
      obtain ⟨d, hd1⟩ : ∃ d, xs.getD k 0 = d := ⟨_, rfl⟩
      have hdx := HX.out.1.get (by omega) k
      rw [hd1] at hdx
      have HD1 := Lib.hid hd1
      have hk0 : (0 : Int) ≤ (k : Int) ∧ (k : Int) < (n : Int) := by omega
      obtain ⟨hk0, hk1⟩ := hk0
      clear hd1
      go_wp2_with fail
      go_loopw [7, 8] (fun cv jv wi => ∃ (j cN : Nat) (M : List Nat), j ≤ n' ∧ jv = .int .i64 j ∧ cv = .int .i64 cN ∧ cN < 10000 ∧ Hid (M.length = n + n') ∧ Hid (DigN 10000 M) ∧ Hid (valB 10000 M + 10000 ^ (k + j) * cN = valB 10000 (xs.take k) * y + 10000 ^ k * (d * valB 10000 (ys.take j))) ∧ Hid (∀ p, k + n' ≤ p → M.getD p 0 = 0) ∧ Hid (BlkN .i64 3 wi g M) ∧ Hid (Below w.heap.size w wi)) (fun _ j _ => n' - (intOf j).toNat)
      case atStart => exact ⟨0, 0, L, Nat.zero_le _, rfl, rfl, by omega, hL, hD, by show _ = _; rw [hI.out]; simp [valB], hZ, hb, hw⟩
      case round =>
        clear hL hD hI hZ hb hw
        obtain ⟨j, cN, M, hj, rfl, rfl, hcN, hL, hD, hI, hZ, hb, hw⟩ := hrel
        by_cases hjt : j < n'
        · obtain ⟨q, o, rfl, hq⟩ := HR.out.addr (by omega)
          have hx := (HR.out.below hw.out hB).cell hlt
          rw [HD1.out] at hx
          obtain ⟨q', o', rfl, hq'⟩ := HR'.out.addr (by omega)
          have hy := (HR'.out.below hw.out hB).cell hjt
          have hold := hb.out.cell (i := k + j) (by rw [hL.out]; omega)
          have hfr := hb.out.frozen (k + j)
          have hdy := HX'.out.1.get (by omega) j
          have hdo := hD.out.get (by omega) (k + j)
          obtain ⟨f, hf1⟩ : ∃ d, ys.getD j 0 = d := ⟨_, rfl⟩
          obtain ⟨v, hv1⟩ : ∃ d, M.getD (k + j) 0 = d := ⟨_, rfl⟩
          rw [hf1] at hy hdy
          rw [hv1] at hold hdo
          have HF := Lib.hid hf1
          have HV1 := Lib.hid hv1
          have hp9 := Nat.mul_le_mul (show d ≤ 9999 by omega) (show f ≤ 9999 by omega)
          obtain ⟨p, hp⟩ : ∃ p, d * f = p := ⟨_, rfl⟩
          obtain ⟨u, hu⟩ : ∃ u, v + p = u := ⟨_, rfl⟩
          obtain ⟨s, hs⟩ : ∃ s, u + cN = s := ⟨_, rfl⟩
          have HP := Lib.hid hp
          rw [hp] at hp9
          have HS := Lib.hid hs
          have hs9 : s < 100000000 := by omega
          have HNEW := Lib.hid (mul_step (b := 10000) (Y := ys) (x := d) (s := s) (by rw [hL.out]; omega) (by rw [HF.out, HV1.out, HP.out, ← hs]; omega) hI.out)
          have hpi : (d : Int) * (f : Int) = (p : Int) := by rw [← hp]; exact (Int.natCast_mul d f).symm
          have hui : (v : Int) + (p : Int) = (u : Int) := by omega
          have hsi : (u : Int) + (cN : Int) = (s : Int) := by omega
          have hu9 : u < 100000000 := by omega
          obtain ⟨m, hm⟩ : ∃ m, k + j = m := ⟨_, rfl⟩
          have hmi : (k : Int) + (j : Int) = (m : Int) := by omega
          rw [hm] at hold hfr HNEW
          have HM := Lib.hid hm
          obtain ⟨r, hr1⟩ : ∃ r, s % 10000 = r := ⟨_, rfl⟩
          obtain ⟨t, ht1⟩ : ∃ t, s / 10000 = t := ⟨_, rfl⟩
          have hri : (s : Int).tmod 10000 = (r : Int) := by rw [← hr1]; exact tmodN s 10000
          have hti : (s : Int).tdiv 10000 = (t : Int) := by rw [← ht1]; exact tdivN s 10000
          have hset := hb.out.set m r
          have HSET := Lib.hid hset
          rw [hr1, ht1] at HNEW
          have hj0 : (0 : Int) ≤ (j : Int) ∧ (j : Int) < (n' : Int) := by omega
          obtain ⟨hj0, hj1⟩ := hj0
          have ht9 : t < 10000 := by omega
          have hr9 : r < 10000 := by omega
          have hm9 : m < n + n' := by omega
          clear hf1 hv1 hp hs hu hm hset hr1 ht1
          go_wp2_with fail
          go_quiet (fail)
          go_wp2_with fail
          go_roundw
          case rel =>
            refine ⟨j + 1, t, _, by omega, by go_num, rfl, ht9, ?_, ?_, HNEW, ?_, HSET, ?_⟩
            · show _ = _; rw [List.length_set]; exact hL.out
            · exact hD.out.set hr9 m
            · intro p9 hp9
              rw [getDn_set_ne (by have := HM.out; omega)]
              exact hZ.out p9 hp9
            · exact (belowN hw.out _).setCell HG.out _
          case measure => simp [intOf] <;> omega
        · obtain rfl : j = n' := by omega
          have hold := hb.out.cell (i := k + j) (by rw [hL.out]; omega)
          have hfr := hb.out.frozen (k + j)
          obtain ⟨m, hm⟩ : ∃ m, k + j = m := ⟨_, rfl⟩
          have hmi : (k : Int) + (j : Int) = (m : Int) := by omega
          rw [hm] at hold hfr
          have HM := Lib.hid hm
          have h0 := hZ.out m (by omega)
          rw [h0] at hold
          have hset := hb.out.set m cN
          have HSET := Lib.hid hset
          have hm9 : m < n + j := by omega
          have hc9 : (cN : Int) < 10000 := by omega
          have HNEW : Hid (valB 10000 (M.set m cN) = valB 10000 (xs.take (k + 1)) * y) := by
            show _ = _
            rw [valB_take_succ', HD1.out, Nat.add_mul, Nat.mul_assoc]
            refine mul_last (by rw [hL.out]; exact hm9) (hZ.out m (by omega)) ?_
            have h1 := hI.out
            rw [hm, List.take_of_length_le (l := ys) (by rw [HL'.out]; exact Nat.le_refl _), HV'.out] at h1
            exact h1
          clear hm hset h0
          go_wp2_with fail
          go_roundw
          case rel =>
            refine ⟨k + 1, _, by omega, by go_num, ?_, ?_, HNEW, ?_, HSET, ?_⟩
            · show _ = _; rw [List.length_set]; exact hL.out
            · exact hD.out.set (by omega) m
            · intro p9 hp9
              rw [getDn_set_ne (by have := HM.out; omega)]
              exact hZ.out p9 (by omega)
            · exact hw.out.setCell HG.out _
          case measure => simp [intOf] <;> omega
    · obtain rfl : k = n := by omega
      have HVL : Hid (valB 10000 L = x * y) := by
        show _ = _
        rw [hI.out, List.take_of_length_le (by rw [HL.out]; omega), HV.out]
      go_wp2_with fail
      refine (RTRIM_blk _ _ _ _ _ hb hL (by unfold maxLen; omega) hD HVL).mono ?_
      rintro e w9 ⟨⟨m, rfl, h1, h2⟩, rfl⟩
      have H1 := Lib.hid h1
      clear h1
      go_wp2_with fail
      go_ret
      exact ⟨_, _, _, rfl, H1.out, h2, hw.out⟩
end Go.Proofs.YtocbogdjlapogaaGreatDoor
