/- match.rowsOf; slices.Min at ints. -/
import Derived.Test.YtkmcohnhanphdaaGreatDoorVb
import Derived.Test.YtkmcohnhanphdaaGreatDoorVc
import Derived.Deep.QuietTactic
import Derived.Test.YtkmcohnhanphdaaGreatDoorVa
set_option linter.unusedSimpArgs false
set_option linter.unusedVariables false
namespace Go.Proofs.YtkmcohnhanphdaaGreatDoor
open Go.RowKit Go.Dw
set_option maxHeartbeats 1600000 in
theorem SLMIN_any (A : Option Addr) (n c : Nat) (xs : List Int) (hn : n ≤ 1000000) (h0 : 0 < n) (hx : Hid (∀ x ∈ xs, 1 ≤ x ∧ x ≤ 100000)) (w : World) (B : Nat) (hh : Hid (IntsAt w B A n xs)) :
    Calls Tryz.prog 35 #[.slice A n c] w fun e w' => (∃ m : Int, 1 ≤ m ∧ m ≤ 100000 ∧ e = .returned (.int .i64 m)) ∧ w = w' := by
  have hl := Lib.hid hh.out.1
  have HX : Hid (∀ k, k < n → 1 ≤ elOf xs k ∧ elOf xs k ≤ 100000) := fun k hk => hx.out _ (el_memB (by rw [hl.out]; exact hk))
  obtain ⟨ad, rfl, hb, hc⟩ := hh.out.2 0 h0
  rw [show ad.add 0 = ad by obtain ⟨b, o, s⟩ := ad; cases s <;> simp [Addr.add]] at hc
  have hn1 : decide ((n : Int) < 1) = false := by simp; omega
  have hnn : (0 : Int) < (n : Int) := by omega
  go_enter Tryz.func35, Tryz.ntmps35
  go_wp2_with fail
  clear hc hn1
  go_loop [3, 4] (fun m i => ∃ (k : Nat) (mm : Int), 1 ≤ k ∧ k ≤ n ∧ i = .int .i64 k ∧ m = .int .i64 mm ∧ 1 ≤ mm ∧ mm ≤ 100000) (fun _ i => n - (intOf i).toNat)
  case atStart => exact ⟨1, _, Nat.le_refl _, h0, rfl, rfl, (HX.out 0 h0).1, (HX.out 0 h0).2⟩
  case round =>
    obtain ⟨k, mm, hk1, hk, rfl, rfl, hm1, hm2⟩ := hrel
    by_cases hlt : k < n
    · obtain ⟨ad2, e2, hb2, hc2⟩ := hh.out.2 k hlt
      cases e2
      obtain ⟨hx1, hx2⟩ := HX.out k hlt
      obtain ⟨x, hx⟩ : ∃ x, elOf xs k = x := ⟨_, rfl⟩
      rw [hx] at hc2 hx1 hx2
      clear hx
      have hk0 : (0 : Int) ≤ (k : Int) := by omega
      have hkn : (k : Int) < (n : Int) := by omega
      go_wp2_with fail
      go_round
      case rel => exact ⟨k + 1, _, by omega, by omega, by go_num, rfl, by omega, by omega⟩
      case measure => simp [intOf]; omega
    · obtain rfl : k = n := by omega
      go_wp2_with fail
      go_ret
      exact ⟨⟨mm, hm1, hm2, rfl⟩, rfl⟩
def rwC (r : Rw) : List Value := [.int .i64 r.take, .int .i64 r.from_, .int .i64 r.at_, .int .i64 r.len]
theorem rec_rw {rows : List Rw} {i : Nat} (h : i < rows.length) : recOf (rows.map rwC) i = rwC (rwOf rows i) := by
  simp [recOf, rwOf, List.getD, h]
theorem rows_len {l : List Tk} {lens takes : List Int} : ∀ k, (rowsK l lens takes k).length ≤ k
  | 0 => Nat.le_refl _
  | k + 1 => by
    have h := rows_len (l := l) (lens := lens) (takes := takes) k
    show (stepR _ _ _ _ _).length ≤ k + 1
    unfold stepR
    split
    · rw [List.length_append, List.length_dropLast]; simp; omega
    · rw [List.length_append]; simp; omega
theorem rows_same {rows : List Rw} {j : Nat} {x : Int} (h : rows.length = j + 1) : (rows.map rwC).set j ((recOf (rows.map rwC) j).set 3 (.int .i64 x)) = (rows.dropLast ++ [(⟨(rwOf rows j).take, (rwOf rows j).from_, (rwOf rows j).at_, x⟩ : Rw)]).map rwC := by
  rw [rec_rw (by omega)]
  have e := last_split (out := rows) (by omega)
  rw [h, Nat.add_sub_cancel] at e
  have hd : rows.dropLast.length = j := by rw [List.length_dropLast]; omega
  obtain ⟨r, hr⟩ : ∃ r, rwOf rows j = r := ⟨_, rfl⟩
  rw [hr] at e ⊢
  rw [e] at hd
  rw [List.dropLast_concat] at hd
  conv => lhs; rw [e]
  rw [List.map_append, List.map_append, List.set_append_right _ _ (by rw [List.length_map]; omega), List.length_map, hd, Nat.sub_self]
  rfl
theorem sum_bd {l : List Tk} {lens takes : List Int} (h : TakesOk l lens takes) : ∀ k, k ≤ lens.length → 0 ≤ (lens.take k).sum ∧ (lens.take k).sum ≤ 100000 * k
  | 0, _ => by simp
  | k + 1, hk => by
    have h1 := sum_bd h k (by omega)
    have h2 := h.long _ (el_memB (xs := lens) (k := k) (by omega))
    rw [sum_take (by omega)]
    omega
/-- the numbers of a row stay small -/
structure RwFit (r : Rw) : Prop where
  t0 : 0 ≤ r.take
  t1 : r.take < 20
  f0 : 0 ≤ r.from_
  f1 : r.from_ ≤ 9999999900000
  a0 : 0 ≤ r.at_
  a1 : r.at_ ≤ 6000000
  l0 : 1 ≤ r.len
  l1 : r.len ≤ 6000000
theorem rows_fit {l : List Tk} {lens takes : List Int} (h : TakesOk l lens takes) : ∀ k, k ≤ lens.length → (∀ r ∈ rowsK l lens takes k, 0 ≤ r.take ∧ r.take < (l.length : Int) ∧ 0 ≤ r.from_ ∧ r.from_ ≤ 9999999900000 ∧ 0 ≤ r.at_ ∧ 1 ≤ r.len ∧ r.at_ + r.len ≤ 100000 * k ∧ r.len ≤ 100000 * k)
  | 0, _ => fun r hr => by simp [rowsK] at hr
  | k + 1, hk => fun r hr => by
    have ih := rows_fit h k (by omega)
    obtain ⟨g1, g2, g3, g4, g5, g6⟩ := frm_rng h (i := k) (by omega)
    have hs := sum_bd h k (by omega)
    have hr' : r ∈ stepR (rowsK l lens takes k) (elOf takes k) (frm l takes k) (lens.take k).sum (elOf lens k) := hr
    unfold stepR at hr'
    split at hr'
    · rename_i hc
      rcases List.mem_append.1 hr' with h1 | h1
      · have := ih r ((List.dropLast_sublist _).subset h1); omega
      · rw [List.mem_singleton.1 h1]
        have := ih _ (rw_mem (l := rowsK l lens takes k) (k := (rowsK l lens takes k).length - 1) (by omega))
        dsimp only
        omega
    · rcases List.mem_append.1 hr' with h1 | h1
      · have := ih r h1; omega
      · rw [List.mem_singleton.1 h1]
        dsimp only
        omega
theorem below_self {N : Nat} {w : World} (h : N ≤ w.heap.size) : Below N w w := (Below.refl _ _).mono h
set_option maxRecDepth 100000 in
set_option maxHeartbeats 8000000 in
theorem ROWSOF_any (A A1 A2 : Option Addr) (n n1 n2 cap cap1 cap2 : Nat) (l : List Tk) (lens takes : List Int) (hok : Hid (TakesOk l lens takes)) (w : World) (B : Nat) (hB : B ≤ w.heap.size) (hh : Hid (TakesAt w B A n l)) (h1 : Hid (IntsAt w B A1 n1 lens)) (h2 : Hid (IntsAt w B A2 n2 takes)) :
    Calls Tryz.prog 36 #[.slice A n cap, .slice A1 n1 cap1, .slice A2 n2 cap2] w fun e w' => ∃ v, e = .returned v ∧ OwnK 4 96 w' w.heap.size v ((rowsK l lens takes n1).map rwC) ∧ Below w.heap.size w w' := by
  have hl := Lib.hid hh.out.1
  have hl1 := Lib.hid h1.out.1
  have hl2 := Lib.hid h2.out.1
  have hn20 : n ≤ 20 := by have := hok.out.few; have := hl.out; omega
  have hn60 : n1 ≤ 60 := by have := hok.out.short; have := hl1.out; omega
  have hn2 : n2 = n1 := by have := hok.out.same; have := hl1.out; have := hl2.out; omega
  subst hn2
  go_enter Tryz.func36, Tryz.ntmps36
  go_wp2_with fail
  go_loopw [7, 8, 15] (fun v a i wr => ∃ (k : Nat) (A' : Option Addr) (c' : Nat), k ≤ n2 ∧ i = .int .i64 k ∧ v = .slice A' (rowsK l lens takes k).length c' ∧ a = .int .i64 (lens.take k).sum ∧ Hid (OwnK 4 96 wr w.heap.size (.slice A' (rowsK l lens takes k).length c') ((rowsK l lens takes k).map rwC)) ∧ Hid (Below w.heap.size w wr)) (fun _ _ i _ => n2 - (intOf i).toNat)
  case atStart => exact ⟨0, _, _, Nat.zero_le _, rfl, rfl, rfl, OwnK.nil _ _ _ _, Below.refl _ _⟩
  case round =>
    obtain ⟨k, A', c', hk, rfl, rfl, rfl, HO, HB⟩ := hrel
    have hsz := HB.out.size
    by_cases hlt : k < n2
    · have hk0 : (0 : Int) ≤ (k : Int) := by omega
      have hkn : (k : Int) < (n2 : Int) := by omega
      have hF := frm_rng hok.out (i := k) (by rw [hl1.out]; exact hlt)
      have HI1 := h1.out.below HB.out hB
      have HI2 := h2.out.below HB.out hB
      obtain ⟨ad1, e1, hab1, c1⟩ := HI1.2 k hlt
      obtain ⟨ad2, e2, _, c2⟩ := HI2.2 k hlt
      subst e1 e2
      have hT := hF.2.2.2.2
      obtain ⟨tn, htn⟩ : ∃ tn : Nat, elOf takes k = (tn : Int) := ⟨(elOf takes k).toNat, by omega⟩
      have htl : tn < n := by have := hl.out; omega
      obtain ⟨b, o, A9, n9, c9, e, hb9, ⟨_, _, _, k3⟩, hn9, hc9, hi9⟩ := (hh.out.below HB.out hB).2 tn htl
      subst e
      have hst := (hok.out.starts _ (tk_mem (l := l) (k := tn) (by rw [hl.out]; exact htl))).1
      have hn99 : n9 = n2 := by have := hi9.1; have := hl1.out; omega
      subst hn99
      obtain ⟨ad3, e3, _, c3⟩ := hi9.2 k hlt
      subst e3
      obtain ⟨f, hf⟩ : ∃ f, frm l takes k = f := ⟨_, rfl⟩
      obtain ⟨x, hx⟩ : ∃ x, elOf lens k = x := ⟨_, rfl⟩
      have hfe : elOf (tkOf l tn).starts k = f := by rw [← hf]; unfold frm; rw [htn]; rfl
      rw [hfe] at c3
      rw [hx] at c1
      rw [htn] at c2
      rw [hf, hx] at hF
      obtain ⟨f0, f1, x0, x1, _, _⟩ := hF
      have HSUM : Hid ((lens.take (k + 1)).sum = (lens.take k).sum + x) := by show _ = _; rw [sum_take (by rw [hl1.out]; exact hlt), hx]
      have HST : Hid (rowsK l lens takes (k + 1) = stepR (rowsK l lens takes k) (tn : Int) f (lens.take k).sum x) := by show _ = _; rw [← htn, ← hf, ← hx]; rfl
      have hs0 : 0 ≤ (lens.take k).sum ∧ (lens.take k).sum ≤ 6000000 := by have := sum_bd hok.out k (by rw [hl1.out]; omega); omega
      obtain ⟨s, hs⟩ : ∃ s, (lens.take k).sum = s := ⟨_, rfl⟩
      rw [hs] at HSUM HST hs0 ⊢
      obtain ⟨L, hL⟩ : ∃ L, (rowsK l lens takes k).length = L := ⟨_, rfl⟩
      have HL := Lib.hid hL
      have hLk : L ≤ 60 := by rw [← hL]; have := rows_len (l := l) (lens := lens) (takes := takes) k; omega
      rw [hL] at HO ⊢
      clear hL hs hf hx hfe htn hst hi9
      have htn0 : (0 : Int) ≤ (tn : Int) := by omega
      have htnn : (tn : Int) < (n : Int) := by omega
      have hw1 := IntWalk.i64_in (s + x) (by omega)
      have hlens : k < lens.length := by rw [hl1.out]; exact hlt
      have HOK := hok
      clear hok hh h1 h2 HI1 HI2
      by_cases hL0 : L = 0
      · have hd1 : decide (0 ≤ (L : Int) - 1) = false := by simp; omega
        have hr0 : rowsK l lens takes k = [] := List.length_eq_zero_iff.1 (by rw [HL.out]; exact hL0)
        have HNEW : Hid (rowsK l lens takes (k + 1) = rowsK l lens takes k ++ [⟨(tn : Int), f, s, x⟩]) := by
          show _ = _
          rw [HST.out]
          unfold stepR
          rw [if_neg (by rintro ⟨h9, _⟩; rw [HL.out] at h9; omega)]
        clear hr0
        have hd2 : ((L : Int) - 1) = -1 := by omega
        obtain rfl : L = 0 := by omega
        go_upto_region 7 with (fail)
        go_quiet (fail)
        obtain ⟨Y, hY⟩ : ∃ Y, Y = wr.drewN nq := ⟨_, rfl⟩
        have HBY : Hid (Below wr.heap.size wr Y) := by rw [hY]; exact belowN (Below.refl _ _) _
        have HB2 := Lib.hid (HB.out.trans (HBY.out.mono hsz))
        have HO := Lib.hid (HO.out.below HBY.out)
        have c1 : Y.cell? (ad1.add k) = some (.int .i64 x) := by rw [hY]; exact c1
        have hszY := HB2.out.size
        rw [← hY]
        clear hY c2 c3 HBY
        go_wp2_with (at_builtin; refine wpList_push_k 93 96 4 32 (.agg #[.int .i64 0, .int .i64 0, .int .i64 0, .int .i64 0]) Tryz.underlying93 (by kernel_rfl) rfl (by omega) (by omega) rfl (.tmp 69) (.tmp 78) rfl w.heap.size _ _ _ _ [.int .i64 (tn : Int), .int .i64 f, .int .i64 s, .int .i64 x] rfl (by intro u hu; simp at hu; rcases hu with rfl | rfl | rfl | rfl <;> rfl) _ rfl _ rfl rfl rfl HO.out (by omega) hszY ?_; intro g9 cap9 w9 hO9 hb9; have HO9 := Lib.hid hO9; have HB9 := Lib.hid (HB2.out.trans hb9); have c1 := (hb9.cell (p := ad1.add k) (by rw [block_of_add]; omega)).trans c1; clear hO9 hb9)
        go_roundw
        case rel =>
          refine ⟨k + 1, some ⟨g9, 0, none⟩, cap9, by omega, by go_num, ?_, ?_, ?_, HB9⟩
          · rw [HNEW.out, List.length_append, HL.out]; rfl
          · rw [HSUM.out]
          · show OwnK _ _ _ _ _ _
            rw [HNEW.out, List.length_append, HL.out, List.map_append]
            exact HO9.out
        case measure => simp [intOf]; omega
      · obtain ⟨j, rfl⟩ : ∃ j, L = j + 1 := ⟨L - 1, by omega⟩
        have hji : ((j + 1 : Nat) : Int) - 1 = (j : Int) := by omega
        have hj0 : (0 : Int) ≤ (j : Int) := by omega
        have hjl : (j : Int) < ((j + 1 : Nat) : Int) := by omega
        have hjr : j < (rowsK l lens takes k).length := by rw [HL.out]; omega
        have hRW := rec_rw hjr
        have hml : j < ((rowsK l lens takes k).map rwC).length := by rw [List.length_map]; exact hjr
        obtain ⟨ga, rfl⟩ : ∃ ga, A' = some ⟨ga, 0, none⟩ := by
          obtain ⟨g', cap', e', _⟩ := HO.out.slot (by omega) (by omega)
          exact ⟨g', by injection e'⟩
        obtain ⟨r, hr⟩ : ∃ r, rwOf (rowsK l lens takes k) j = r := ⟨_, rfl⟩
        have hfit := rows_fit HOK.out k (by omega) _ (rw_mem hjr)
        rw [hr] at hRW hfit
        have HR := Lib.hid hr
        obtain ⟨rt, rf, ra, rl⟩ := r
        obtain ⟨m0, z0⟩ := OwnK.cells HO.out hml (by omega) 0 (.int .i64 rt) (by rw [hRW]; rfl)
        obtain ⟨m1, z1⟩ := OwnK.cells HO.out hml (by omega) 1 (.int .i64 rf) (by rw [hRW]; rfl)
        obtain ⟨m3, z3⟩ := OwnK.cells HO.out hml (by omega) 3 (.int .i64 rl) (by rw [hRW]; rfl)
        rw [Nat.add_zero] at m0 z0
        dsimp only at hfit
        have hwf : IntKind.i64.wrap (rf + rl) = rf + rl := IntWalk.i64_in _ (by omega)
        have hwl : IntKind.i64.wrap (rl + x) = rl + x := IntWalk.i64_in _ (by omega)
        have HLAST : Hid ((rwOf (rowsK l lens takes k) ((rowsK l lens takes k).length - 1)) = ⟨rt, rf, ra, rl⟩) := by show _ = _; rw [HL.out]; exact HR.out
        have HRW := Lib.hid hRW
        have HML := Lib.hid hml
        clear hr hRW hml hjr hL0 hfit
        by_cases ht : rt = (tn : Int)
        case neg =>
          have HNEW : Hid (rowsK l lens takes (k + 1) = rowsK l lens takes k ++ [⟨(tn : Int), f, s, x⟩]) := by
            show _ = _
            rw [HST.out]
            unfold stepR
            rw [HLAST.out, if_neg (by rintro ⟨_, h9, _⟩; exact ht h9)]
          have hd1 : (rt == (tn : Int)) = false := by simpa using ht
          clear ht
          go_upto_region 7 with (fail)
          go_quiet (fail)
          obtain ⟨Y, hY⟩ : ∃ Y, Y = wr.drewN nq := ⟨_, rfl⟩
          have HBY : Hid (Below wr.heap.size wr Y) := by rw [hY]; exact belowN (Below.refl _ _) _
          have HB2 := Lib.hid (HB.out.trans (HBY.out.mono hsz))
          have HO := Lib.hid (HO.out.below HBY.out)
          have c1 : Y.cell? (ad1.add k) = some (.int .i64 x) := by rw [hY]; exact c1
          have hszY := HB2.out.size
          rw [← hY]
          clear hY c2 c3 HBY
          clear m0 m1 m3 z0 z1 z3
          go_wp2_with (at_builtin; refine wpList_push_k 93 96 4 32 (.agg #[.int .i64 0, .int .i64 0, .int .i64 0, .int .i64 0]) Tryz.underlying93 (by kernel_rfl) rfl (by omega) (by omega) rfl (.tmp 69) (.tmp 78) rfl w.heap.size _ _ _ _ [.int .i64 (tn : Int), .int .i64 f, .int .i64 s, .int .i64 x] rfl (by intro u hu; simp at hu; rcases hu with rfl | rfl | rfl | rfl <;> rfl) _ rfl _ rfl rfl rfl HO.out (by omega) hszY ?_; intro g9 cap9 w9 hO9 hb9; have HO9 := Lib.hid hO9; have HB9 := Lib.hid (HB2.out.trans hb9); have c1 := (hb9.cell (p := ad1.add k) (by rw [block_of_add]; omega)).trans c1; clear hO9 hb9)
          go_roundw
          case rel =>
            refine ⟨k + 1, some ⟨g9, 0, none⟩, cap9, by omega, by go_num, ?_, ?_, ?_, HB9⟩
            · rw [HNEW.out, List.length_append, HL.out]; rfl
            · rw [HSUM.out]
            · show OwnK _ _ _ _ _ _
              rw [HNEW.out, List.length_append, HL.out, List.map_append]
              exact HO9.out
          case measure => simp [intOf]; omega
        subst ht
        have hd1 : ((tn : Int) == (tn : Int)) = true := by simp
        by_cases hf9 : rf + rl = f
        case neg =>
          have HNEW : Hid (rowsK l lens takes (k + 1) = rowsK l lens takes k ++ [⟨(tn : Int), f, s, x⟩]) := by
            show _ = _
            rw [HST.out]
            unfold stepR
            rw [HLAST.out, if_neg (by rintro ⟨_, _, h9⟩; exact hf9 h9)]
          have hd2 : (rf + rl == f) = false := by simpa using hf9
          clear hf9
          go_upto_region 7 with (fail)
          go_quiet (fail)
          obtain ⟨Y, hY⟩ : ∃ Y, Y = wr.drewN nq := ⟨_, rfl⟩
          have HBY : Hid (Below wr.heap.size wr Y) := by rw [hY]; exact belowN (Below.refl _ _) _
          have HB2 := Lib.hid (HB.out.trans (HBY.out.mono hsz))
          have HO := Lib.hid (HO.out.below HBY.out)
          have c1 : Y.cell? (ad1.add k) = some (.int .i64 x) := by rw [hY]; exact c1
          have hszY := HB2.out.size
          rw [← hY]
          clear hY c2 c3 HBY
          clear m0 m1 m3 z0 z1 z3
          go_wp2_with (at_builtin; refine wpList_push_k 93 96 4 32 (.agg #[.int .i64 0, .int .i64 0, .int .i64 0, .int .i64 0]) Tryz.underlying93 (by kernel_rfl) rfl (by omega) (by omega) rfl (.tmp 69) (.tmp 78) rfl w.heap.size _ _ _ _ [.int .i64 (tn : Int), .int .i64 f, .int .i64 s, .int .i64 x] rfl (by intro u hu; simp at hu; rcases hu with rfl | rfl | rfl | rfl <;> rfl) _ rfl _ rfl rfl rfl HO.out (by omega) hszY ?_; intro g9 cap9 w9 hO9 hb9; have HO9 := Lib.hid hO9; have HB9 := Lib.hid (HB2.out.trans hb9); have c1 := (hb9.cell (p := ad1.add k) (by rw [block_of_add]; omega)).trans c1; clear hO9 hb9)
          go_roundw
          case rel =>
            refine ⟨k + 1, some ⟨g9, 0, none⟩, cap9, by omega, by go_num, ?_, ?_, ?_, HB9⟩
            · rw [HNEW.out, List.length_append, HL.out]; rfl
            · rw [HSUM.out]
            · show OwnK _ _ _ _ _ _
              rw [HNEW.out, List.length_append, HL.out, List.map_append]
              exact HO9.out
          case measure => simp [intOf]; omega
        subst hf9
        have hd2 : (rf + rl == rf + rl) = true := by simp
        have HNEW : Hid (rowsK l lens takes (k + 1) = (rowsK l lens takes k).dropLast ++ [⟨(tn : Int), rf, ra, rl + x⟩]) := by
          show _ = _
          rw [HST.out]
          unfold stepR
          rw [HLAST.out, if_pos ⟨by rw [HL.out]; omega, rfl, rfl⟩]
        have hset := rows_same (x := rl + x) HL.out
        rw [HR.out] at hset
        have HSET := Lib.hid hset
        clear hset
        go_upto_region 7 with (fail)
        go_quiet (fail)
        obtain ⟨Y, hY⟩ : ∃ Y, Y = wr.drewN nq := ⟨_, rfl⟩
        have HBY : Hid (Below wr.heap.size wr Y) := by rw [hY]; exact belowN (Below.refl _ _) _
        have HB2 := Lib.hid (HB.out.trans (HBY.out.mono hsz))
        have HO := Lib.hid (HO.out.below HBY.out)
        have c1 : Y.cell? (ad1.add k) = some (.int .i64 x) := by rw [hY]; exact c1
        have hszY := HB2.out.size
        rw [← hY]
        clear hY c2 c3 HBY
        clear m0 m1 m3 z0 z1 z3 hd1 hd2
        obtain ⟨m3, z3⟩ := OwnK.cells HO.out HML.out (by omega) 3 (.int .i64 rl) (by rw [HRW.out]; rfl)
        have HOS := Lib.hid (OwnK.set HO.out HML.out (j := 3) (by omega) (.int .i64 (rl + x)))
        rw [HSET.out] at HOS
        have hgaw : w.heap.size ≤ ga := (own_lt HO.out.2 rfl).1
        go_wp2_with fail
        go_region
        obtain ⟨Z, hZ⟩ : ∃ Z, Z = (Y.setCell ⟨ga, j * 4 + 3, none⟩ (.int .i64 (rl + x))).drew := ⟨_, rfl⟩
        have hYZ : Below w.heap.size Y Z := by rw [hZ]; exact ((below_self hszY).setCell (p := ⟨ga, j * 4 + 3, none⟩) hgaw _).drew
        have HBZ := Lib.hid (HB2.out.trans hYZ)
        have HOZ : Hid (OwnK 4 96 Z w.heap.size (.slice (some ⟨ga, 0, none⟩) (j + 1) c') (((rowsK l lens takes k).dropLast ++ [(⟨(tn : Int), rf, ra, rl + x⟩ : Rw)]).map rwC)) := by rw [hZ]; exact HOS.out.below (Below.refl _ _).drew
        have c1 := (hYZ.cell (p := ad1.add k) (by rw [block_of_add]; omega)).trans c1
        rw [← hZ]
        clear hZ hYZ m3 z3
        go_wp2_with fail
        have hlen : (rowsK l lens takes (k + 1)).length = j + 1 := by rw [HNEW.out, List.length_append, List.length_dropLast, HL.out]; simp
        go_roundw
        case rel =>
          refine ⟨k + 1, some ⟨ga, 0, none⟩, c', by omega, by go_num, ?_, ?_, ?_, HBZ⟩
          · rw [hlen]
          · rw [HSUM.out]
          · show OwnK _ _ _ _ _ _
            rw [hlen, HNEW.out]
            exact HOZ.out
        case measure => simp [intOf]; omega
    · obtain rfl : k = n2 := by omega
      go_wp2_with fail
      go_ret
      exact ⟨_, rfl, HO.out, HB.out⟩
end Go.Proofs.YtkmcohnhanphdaaGreatDoor

/- Before Build: rows of clips of the call's own; what is returned. -/
set_option linter.unusedSimpArgs false
set_option linter.unusedVariables false
namespace Go.Proofs.YtkmcohnhanphdaaGreatDoor
open Go.RowKit Go.Dw
theorem load_edit (w : World) (g : Nat) (v0 v1 v2 : Value) (h0 : w.cell? ⟨g, 0, none⟩ = some v0) (h1 : w.cell? ⟨g, 1, none⟩ = some v1) (h2 : w.cell? ⟨g, 2, none⟩ = some v2) :
    (loadVar 24 ⟨g, 0, none⟩).run Tryz.prog w = .ok (.agg #[v0, v1, v2]) w := by
  simp [loadVar, go_sem, h0, h1, h2]
theorem res_edit2 {fn : Func} {p u : Tmp} (h : fn.results = #[.cell p 24, .tmp u]) {tmps : Array Value} {w : World} {g : Nat} {v0 v1 v2 : Value} (hp : tmps.getD p undef = .pointer (some ⟨g, 0, none⟩))
    (h0 : w.cell? ⟨g, 0, none⟩ = some v0) (h1 : w.cell? ⟨g, 1, none⟩ = some v1) (h2 : w.cell? ⟨g, 2, none⟩ = some v2) : (results fn tmps).run Tryz.prog w = .ok (.tuple #[.agg #[v0, v1, v2], tmps.getD u undef]) w := by
  have hp' : tmps[p]?.getD undef = .pointer (some ⟨g, 0, none⟩) := by simpa using hp
  simp [results, h, hp', asAddr, load_edit w g v0 v1 v2 h0 h1 h2]
theorem end_edit2 {fn : Func} {R : Ending → World → Prop} {a : Act} {w : World} {p u : Tmp} {g : Nat} {v0 v1 v2 o0 o1 o2 : Value} (h : fn.results = #[.cell p 24, .tmp u]) (hp : a.tmps.getD p undef = .pointer (some ⟨g, 0, none⟩)) (hd : a.defers = [])
    (c0 : w.cell? ⟨g, 0, none⟩ = some o0) (c1 : w.cell? ⟨g, 1, none⟩ = some o1) (c2 : w.cell? ⟨g, 2, none⟩ = some o2)
    (hR : R (.returned (.tuple #[.agg #[v0, v1, v2], a.tmps.getD u undef])) (((w.setCell ⟨g, 0, none⟩ v0).setCell ⟨g, 1, none⟩ v1).setCell ⟨g, 2, none⟩ v2)) : bodyPost Tryz.prog fn R .ret a (((w.setCell ⟨g, 0, none⟩ v0).setCell ⟨g, 1, none⟩ v1).setCell ⟨g, 2, none⟩ v2) :=
  bodyPost_ret (res_edit2 h hp (three_set w g o0 o1 o2 v0 v1 v2 c0 c1 c2).1 (three_set w g o0 o1 o2 v0 v1 v2 c0 c1 c2).2.1 (three_set w g o0 o1 o2 v0 v1 v2 c0 c1 c2).2.2) hd hR
theorem set3_below {w w' : World} {B g : Nat} {v0 v1 v2 : Value} (h : Below B w w') (hg : B ≤ g) : Below B w (((w'.setCell ⟨g, 0, none⟩ v0).setCell ⟨g, 1, none⟩ v1).setCell ⟨g, 2, none⟩ v2) :=
  ((h.setCell (p := ⟨g, 0, none⟩) hg _).setCell (p := ⟨g, 1, none⟩) hg _).setCell (p := ⟨g, 2, none⟩) hg _
/-- one record more, as one operation of a drawn region; what grows is told -/
theorem wp_push_k2 {o : Oper} {a : Act} {K : Act → World → Prop} {Q : Exit → Act → World → Prop} {w0 : World} (T0 E : TypeId) (k bytes : Nat) (z : Value) (hT : Tryz.prog.underlying T0 = some (.slice E)) (hinf : (Tryz.prog.info? E).map (fun i => (i.zero, i.size, i.bytes)) = some (some z, k, bytes)) (hzc : z.cells.size = k) (hk : 0 < k) (hby : bytes ≤ 1024)
    (s x : Operand) (ho : o.op = .call { callee := .builtin .append, args := #[s, x], argTypes := #[T0, T0] }) (base : Nat) (A : Option Addr) (n c : Nat) (ls : List (List Value)) (l : List Value) (hl : l.length = k) (hone : ∀ u ∈ l, u.oneCell' = true) (g0 : Nat) (hg0 : w0.heap.size = g0) (e : Array Value) (he : e.toList = l)
    (hs : a.eval s = .slice A n c) (hx : a.eval x = .slice (some ⟨g0, 0, none⟩) 1 1) (hown : OwnK k E w0 base (.slice A n c) ls) (hn : n ≤ 100000000000) (hb : base ≤ w0.heap.size)
    (h : ∀ g cap w', OwnK k E w' base (.slice (some ⟨g, 0, none⟩) (n + 1) cap) (ls ++ [l]) → (w0.alloc (.cells e E)).grownBy w' (Value.slice A n c).ownBlock → K (a.put o.dst (.slice (some ⟨g, 0, none⟩) (n + 1) cap)) w') :
    o.wp Tryz.prog a (w0.alloc (.cells e E)) K Q := by
  obtain ⟨i1, e0, e1, e2, e3⟩ := info_parts hinf
  subst hg0
  have hn' : n = ls.length := by
    obtain ⟨A', c', e, _, _⟩ := own_form hown.2
    injection e
  subst hn'
  refine wp_append_lies _ s x T0 ho base E i1 z k bytes hT e0 e1 e2 e3 hzc hk (.slice A ls.length c) ls.length ls.flatten hs (World.ownsRow.alloc hown.2 _) ⟨w0.heap.size, 0, none⟩ 1 1 l hx (by omega) (fun j u hj => ?_) hone (by omega) (by simp only [maxLen]; omega) ?_ (by simp; omega) _ rfl ?_
  · rw [show (⟨w0.heap.size, 0, none⟩ : Addr).add j = ⟨w0.heap.size, j, none⟩ by unfold Addr.add; split <;> simp_all, World.cell?_alloc_new]
    rw [← he] at hj; simpa using hj
  · calc (ls.length + 1) * bytes ≤ 100000000001 * 1024 := Nat.mul_le_mul (by omega) hby
      _ ≤ _ := by decide
  · intro g cap w' h1 h2 _ _
    exact h g cap w' (hown.snoc hl h1) h2
def pt1 : Array Value := #[.int .i64 0, .string ⟨#[49]⟩, .string ⟨#[49]⟩]
def cpL (c : Cp) (v : Value) : List Value := [.string c.media, .int .i64 c.chan, .int .i64 c.from_, .int .i64 c.track, .int .i64 c.at_, .int .i64 c.len, v]
/-- a row of clips of the call's own, each of one point 1/1 -/
structure ClipsB (w : World) (base : Nat) (v : Value) (cs : List Cp) (ls : List (List Value)) : Prop where
  own : OwnK 7 58 w base v ls
  len : ls.length = cs.length
  each : ∀ i, i < cs.length → ∃ b, recOf ls i = cpL (cpOf cs i) (.slice (some ⟨b, 0, none⟩) 1 1) ∧ base ≤ b ∧ (cpOf cs i).env = one1 ∧ w.heap[b]? = some (.cells pt1 68 (0, 0))
theorem ClipsB.nil (w : World) (base : Nat) : ClipsB w base (.slice none 0 0) [] [] := ⟨OwnK.nil _ _ _ _, rfl, fun i hi => by simp at hi⟩
theorem ClipsB.below {w w' : World} {base : Nat} {v : Value} {cs : List Cp} {ls : List (List Value)} (h : ClipsB w base v cs ls) (hb : Below w.heap.size w w') : ClipsB w' base v cs ls :=
  ⟨h.own.below hb, h.len, fun i hi => by
    obtain ⟨b, h1, h2, h3, h4⟩ := h.each i hi
    exact ⟨b, h1, h2, h3, (hb.block b (blk_lt h4)).trans h4⟩⟩
theorem ClipsB.far {w : World} {base : Nat} {v : Value} {cs : List Cp} {ls : List (List Value)} (h : ClipsB w base v cs ls) {p : Addr} (hp : p.block < base) (u : Value) : ClipsB (w.setCell p u) base v cs ls :=
  ⟨h.own.far hp u, h.len, fun i hi => by
    obtain ⟨b, h1, h2, h3, h4⟩ := h.each i hi
    exact ⟨b, h1, h2, h3, (Below.heap_setCell _ _ _ _ (by omega)).trans h4⟩⟩
theorem ClipsB.push {w0 w9 : World} {base g n c cap : Nat} {A : Option Addr} {cs : List Cp} {ls : List (List Value)} {cp : Cp} {e : Array Value} (h : ClipsB w0 base (.slice A n c) cs ls) (hb : base ≤ w0.heap.size) (henv : cp.env = one1)
    (ho : OwnK 7 58 w9 base (.slice (some ⟨g, 0, none⟩) (n + 1) cap) (ls ++ [cpL cp (.slice (some ⟨w0.heap.size, 0, none⟩) 1 1)])) (hg : ((w0.alloc (.cells pt1 68)).alloc (.cells e 58)).grownBy w9 (Value.slice A n c).ownBlock) :
    ClipsB w9 base (.slice (some ⟨g, 0, none⟩) (n + 1) cap) (cs ++ [cp]) (ls ++ [cpL cp (.slice (some ⟨w0.heap.size, 0, none⟩) 1 1)]) := by
  have hne : ∀ b, b < (w0.alloc (.cells pt1 68)).heap.size → (w0.alloc (.cells pt1 68)).heap[b]? = some (.cells pt1 68 (0, 0)) → w9.heap[b]? = some (.cells pt1 68 (0, 0)) := by
    intro b hbl hh
    have h1 : some b ≠ (Value.slice A n c).ownBlock := fun e9 => by
      have h2 := (h.own.alloc (.cells pt1 68)).2
      rcases h2.2 with ⟨h3, _⟩ | ⟨g', cap', cur, h3, _, h4, _⟩
      · rw [h3] at e9; cases e9
      · rw [h3] at e9
        injection e9 with e9
        subst e9
        rw [hh] at h4
        injection h4 with h4
        injection h4 with _ h5
        exact absurd h5 (by decide)
    exact (hg.block b (by simp at hbl ⊢; omega) h1).trans ((Below.heap_alloc _ _ _ hbl).trans hh)
  refine ⟨ho, by simp [h.len], fun i hi => ?_⟩
  rw [List.length_append, List.length_singleton] at hi
  by_cases hil : i < cs.length
  · obtain ⟨b, h1, h2, h3, h4⟩ := h.each i hil
    refine ⟨b, ?_, h2, ?_, hne b (by have := blk_lt h4; simp; omega) ((Below.heap_alloc _ _ _ (blk_lt h4)).trans h4)⟩
    · have e1 : recOf (ls ++ [cpL cp (.slice (some ⟨w0.heap.size, 0, none⟩) 1 1)]) i = recOf ls i := by simp [recOf, List.getD, List.getElem?_append_left (show i < ls.length by rw [h.len]; exact hil)]
      have e2 : cpOf (cs ++ [cp]) i = cpOf cs i := by simp [cpOf, List.getD, List.getElem?_append_left hil]
      rw [e1, e2]; exact h1
    · have e2 : cpOf (cs ++ [cp]) i = cpOf cs i := by simp [cpOf, List.getD, List.getElem?_append_left hil]
      rw [e2]; exact h3
  · obtain rfl : i = cs.length := by omega
    have e1 : recOf (ls ++ [cpL cp (.slice (some ⟨w0.heap.size, 0, none⟩) 1 1)]) cs.length = cpL cp (.slice (some ⟨w0.heap.size, 0, none⟩) 1 1) := by rw [← h.len]; simp [recOf, List.getD]
    have e2 : cpOf (cs ++ [cp]) cs.length = cp := by simp [cpOf, List.getD]
    rw [e2]
    exact ⟨w0.heap.size, e1, hb, henv, hne _ (by simp) (heap_alloc_new _ _)⟩
theorem ClipsB.at_ {w : World} {base n c : Nat} {A : Option Addr} {cs : List Cp} {ls : List (List Value)} (h : ClipsB w base (.slice A n c) cs ls) : ClipsAt w w.heap.size A n cs := by
  have hn : n = cs.length := by
    obtain ⟨A', c', e, _, _⟩ := h.own.form
    injection e with _ e2 _
    rw [e2, h.len]
  refine ⟨hn.symm, fun k hk => ?_⟩
  obtain ⟨b, h1, h2, h3, h4⟩ := h.each k (by omega)
  have hl : k < ls.length := by rw [h.len]; omega
  obtain ⟨ga, cap, e, _, hgl, _⟩ := h.own.slot (by omega) (by omega)
  injection e with e1 _ _
  subst e1
  have hc : ∀ (j : Nat) (u : Value), (cpL (cpOf cs k) (.slice (some ⟨b, 0, none⟩) 1 1))[j]? = some u → w.cell? ⟨ga, k * 7 + j, none⟩ = some u := fun j u hu => (OwnK.cells (i := k) h.own hl (by omega) j u (by rw [h1]; exact hu)).1
  refine ⟨ga, 0, some ⟨b, 0, none⟩, 1, 1, rfl, hgl, ⟨?_, ?_, ?_, ?_, ?_, ?_, ?_⟩, Nat.le_refl _, by unfold maxLen; omega, ?_⟩
  · have := hc 0 _ rfl; rwa [Nat.add_zero, ← Nat.zero_add (k * 7)] at this
  · have := hc 1 _ rfl; rwa [← Nat.zero_add (k * 7)] at this
  · have := hc 2 _ rfl; rwa [← Nat.zero_add (k * 7)] at this
  · have := hc 3 _ rfl; rwa [← Nat.zero_add (k * 7)] at this
  · have := hc 4 _ rfl; rwa [← Nat.zero_add (k * 7)] at this
  · have := hc 5 _ rfl; rwa [← Nat.zero_add (k * 7)] at this
  · have := hc 6 _ rfl; rwa [← Nat.zero_add (k * 7)] at this
  · rw [h3]
    refine ⟨rfl, fun j hj => ⟨b, 0, rfl, blk_lt h4, ?_⟩⟩
    obtain rfl : j = 0 := by omega
    obtain ⟨x0, x1, x2, _, _, _⟩ := three_cells h4
    exact ⟨x0, x1, x2⟩
end Go.Proofs.YtkmcohnhanphdaaGreatDoor
