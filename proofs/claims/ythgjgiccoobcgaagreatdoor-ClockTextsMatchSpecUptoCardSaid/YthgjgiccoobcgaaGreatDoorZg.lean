/- The document's Read. -/
import Derived.Test.YthgjgiccoobcgaaGreatDoorRdc
import Derived.Test.YthgjgiccoobcgaaGreatDoorTxr
import Derived.Test.YthgjgiccoobcgaaGreatDoorRq
import Derived.Test.YthgjgiccoobcgaaGreatDoorYs
import Derived.Test.YthgjgiccoobcgaaGreatDoorLba
import Derived.Test.YthgjgiccoobcgaaGreatDoorAwk
set_option linter.unusedSimpArgs false
set_option linter.unusedVariables false
namespace Go.Proofs.YthgjgiccoobcgaaGreatDoor
open Go.RowKit Go.Dw Go.Joins
theorem rnd_int (z : Int) (most : Nat) : rndR (z : Rat) 2 most = if z.natAbs ≤ most then (z, true) else (0, false) := by
  have h : roundQ (z : Rat) 2 = z := by
    unfold roundQ
    rw [if_neg (by decide), if_neg (by decide)]
    unfold nearQ
    rw [show ((z : Rat)).num = z from Rat.num_intCast z, show ((z : Rat)).den = 1 from Rat.den_intCast z]
    split <;> omega
  unfold rndR
  rw [h]
theorem HASPREFIX_any (s : ByteArray) (w : World) : Calls Tryz.prog 45 #[.string s, .string ⟨#[45]⟩] w fun e w' => e = .returned (.bool (negT s)) ∧ w = w' :=
  (Tryz.strings_HasPrefix s ⟨#[45]⟩ w).mono fun e w' ⟨h1, h2⟩ => ⟨h1, h2.symm⟩
set_option maxRecDepth 100000 in
set_option maxHeartbeats 16000000 in
theorem RREAD_any (s : ByteArray) (rate : Int) (m : Int) (hs : s.size ≤ 1048576) (w : World) (hm : Hid (w.cell? ⟨0, 0, none⟩ = some (.int .i64 m))) (hmx : 0 < w.heap.size) (ht : Hid (TabAt w)) :
    Calls Tryz.prog 11 #[.string s, .int .i64 rate] w (ReadOut rate s.data.toList w) := by
  cases hr : okRate rate with
  | false =>
    have HT : Hid (ReadS rate s.data.toList (0, 1)) := ⟨fun _ => rfl, fun h => absurd h (by rw [hr]; decide)⟩
    have HR : Hid ((decide (1 ≤ rate) && decide (rate ≤ 1000000)) = false) := hr
    clear hr
    go_enter Tryz.func11, Tryz.ntmps11
    go_wp2_with (go_at_call 35; refine (RISRATE_any _ _).mono ?_; rintro e w2 ⟨rfl, rfl⟩; rw [HR.out])
    refine bodyPost_ret (v := .tuple #[.int .i64 0, .int .i64 1]) (by simp [results, Tryz.results11, go_sem]) rfl ?_
    unfold ReadOut
    exact ⟨(0, 1), rfl, HT.out, Below.refl _ _⟩
  | true =>
  have HR : Hid ((decide (1 ≤ rate) && decide (rate ≤ 1000000)) = true) := hr
  have HRT := Lib.hid hr
  obtain ⟨r1, r2⟩ := okRate_le hr
  clear hr
  obtain ⟨r, rfl⟩ : ∃ r : Nat, rate = (r : Int) := ⟨rate.toNat, by omega⟩
  have HTS : Hid (∀ z, ReadP r s.data.toList z → ReadS (r : Int) s.data.toList z) := fun z hz => ⟨fun h => absurd h (by rw [HRT.out]; decide), fun _ => by rw [Int.toNat_natCast]; exact hz⟩
  have HNO := Lib.hid (fun (hn : ∀ t : Int, okPos t = true → showTxt t r ≠ s.data.toList) => HTS.out (0, 10) (.inr ⟨rfl, hn⟩))
  obtain ⟨ng, HNG⟩ : ∃ b, Hid (negT s = b) := ⟨_, rfl⟩
  cases ng with
  | false =>
    have HTD : Hid (s.data.toList = bodyT s) := (prefix_false HNG.out).symm
    have hts : s.size ≤ s.size := Nat.le_refl _
    go_enter Tryz.func11, Tryz.ntmps11
    go_upto_region 6 with (first
      | (go_at_call 35; refine (RISRATE_any _ _).mono ?_; rintro e w2 ⟨rfl, rfl⟩; rw [HR.out])
      | (go_at_call 45; refine (HASPREFIX_any s _).mono ?_; rintro e w1 ⟨rfl, rfl⟩; rw [HNG.out]))
    -- STOP1
    go_wp2_with fail
    refine (SCUT_any 43 s m (by omega) _ hm).mono ?_
    rintro e w1 ⟨left, smp, ok, rfl, HCUT, hlz, hsz, hb1⟩
    have HB1 := Lib.hid hb1
    have hs1 := hb1.size
    have hm1 : Hid (w1.cell? ⟨0, 0, none⟩ = some (.int .i64 m)) := (HB1.out.cell (p := ⟨0, 0, none⟩) hmx).trans hm.out
    clear hb1
    go_wp2_with fail
    refine (SPLITC_any 58 left m (by omega) _ hm1).mono ?_
    rintro e w2 ⟨gs, k, P, rfl, hk, HP, HPC, hb2⟩
    obtain ⟨W2, rfl⟩ : ∃ x : World, x = w2 := ⟨_, rfl⟩
    have hs2 := hb2.out.size
    have HB2 := Lib.hid (HB1.out.trans (hb2.out.mono HB1.out.size))
    have hw02 : w.heap.size ≤ W2.heap.size := HB2.out.size
    have ht2 : Hid (TabAt W2) := ht.out.below HB2.out
    have hgs := blk_lt HPC.out
    have HPA : Hid (∀ t : Int, okPos t = true → showTxt t r = s.data.toList → ReadsAs r s.data.toList false ok left.data.toList smp.data.toList t) := fun x hx e => by
      have h := read_parts (txt := s.data.toList) (by omega) (by omega) (show Lib.cut (Lib.trimPrefix s.data.toList [45]) [43] = (left.data.toList, smp.data.toList, ok) by have h9 := HCUT.out; rw [HTD.out] at h9; exact h9) hx e
      rw [show Lib.hasPrefix s.data.toList [45] = false from HNG.out] at h
      exact h
    clear hb2 hm1
    cases ok with
    | false =>
      have HT := Lib.hid (HNO.out (fun t h e => absurd (HPA.out t h e).ok (by decide)))
      go_wp2_with fail
      refine bodyPost_ret (v := .tuple #[.int .i64 0, .int .i64 10]) (by simp [results, Tryz.results11, go_sem]) rfl ?_
      unfold ReadOut
      exact ⟨(0, 10), rfl, HT.out, HB2.out⟩
    | true =>
    by_cases h3 : k = 3
    rotate_left
    · have HT := Lib.hid (HNO.out (fun t h e => h3 (by have h1 := (HPA.out t h e).cnt; have h2 := HP.out.1; omega)))
      have hq : ((k : Int) != 3) = true := by simp; omega
      clear hk h3
      go_wp2_with fail
      refine bodyPost_ret (v := .tuple #[.int .i64 0, .int .i64 10]) (by simp [results, Tryz.results11, go_sem]) rfl ?_
      unfold ReadOut
      exact ⟨(0, 10), rfl, HT.out, HB2.out⟩
    subst h3
    obtain ⟨p0, p1, p2, rfl, hc3, hs3⟩ := partsC3 HP.out hk
    have hz0 : p0.size ≤ left.size := by have := splitC_le 58 2 _ p0.data.toList (by rw [hs3]; simp); rw [len_data, len_data] at this; omega
    have hz1 : p1.size ≤ left.size := by have := splitC_le 58 2 _ p1.data.toList (by rw [hs3]; simp); rw [len_data, len_data] at this; omega
    have hz2 : p2.size ≤ left.size := by have := splitC_le 58 2 _ p2.data.toList (by rw [hs3]; simp); rw [len_data, len_data] at this; omega
    have HPT : Hid (∀ t : Int, okPos t = true → showTxt t r = s.data.toList → (GoodD p0.data.toList ∧ p0.data.toList.length ≤ 11) ∧ PairD p1.data.toList ∧ PairD p2.data.toList ∧
      (if false then -((((decV p0.data.toList * 60 + decV p1.data.toList) * 60 + decV p2.data.toList) * r + decV smp.data.toList : Nat) : Int) else ((((decV p0.data.toList * 60 + decV p1.data.toList) * 60 + decV p2.data.toList) * r + decV smp.data.toList : Nat) : Int)) = t) := fun t h e => (HPA.out t h e).parts _ _ _ hs3
    obtain ⟨q0, q1, q2, _, _, _⟩ := tri_cells HPC.out
    clear hk hc3 hs3
    by_cases g0 : GoodD p0.data.toList
    rotate_left
    · have HT := Lib.hid (HNO.out (fun t h e => g0 (HPT.out t h e).1.1))
      have HG0 := Lib.hid (goodD_false g0)
      clear g0
      go_wp2_with (first
        | (go_at_call 46; (with_reducible refine (RNUMB_any p0 ?_ _).mono ?_); (unfold maxLen; omega); rintro e w5 ⟨rfl, rfl⟩; rw [HG0.out])
        | (go_at_call 46; (with_reducible refine (RNUMB_any smp ?_ _).mono ?_); (unfold maxLen; omega); rintro e w5 ⟨rfl, rfl⟩; rw [HG1.out]))
      refine bodyPost_ret (v := .tuple #[.int .i64 0, .int .i64 10]) (by simp [results, Tryz.results11, go_sem]) rfl ?_
      unfold ReadOut
      exact ⟨(0, 10), rfl, HT.out, HB2.out⟩
    have HG0 := Lib.hid (goodD_true g0)
    by_cases g1 : GoodD smp.data.toList
    rotate_left
    · have HT := Lib.hid (HNO.out (fun t h e => g1 (HPA.out t h e).gs))
      have HG1 := Lib.hid (goodD_false g1)
      clear g1
      go_wp2_with (first
        | (go_at_call 46; (with_reducible refine (RNUMB_any p0 ?_ _).mono ?_); (unfold maxLen; omega); rintro e w5 ⟨rfl, rfl⟩; rw [HG0.out])
        | (go_at_call 46; (with_reducible refine (RNUMB_any smp ?_ _).mono ?_); (unfold maxLen; omega); rintro e w5 ⟨rfl, rfl⟩; rw [HG1.out]))
      refine bodyPost_ret (v := .tuple #[.int .i64 0, .int .i64 10]) (by simp [results, Tryz.results11, go_sem]) rfl ?_
      unfold ReadOut
      exact ⟨(0, 10), rfl, HT.out, HB2.out⟩
    have HG1 := Lib.hid (goodD_true g1)
    by_cases l0 : p0.size ≤ 11
    rotate_left
    · have HT := Lib.hid (HNO.out (fun t h e => l0 (by have h1 := (HPT.out t h e).1.2; rw [len_data] at h1; exact h1)))
      have hq : decide ((11 : Int) < (p0.size : Int)) = true := by simp; omega
      go_wp2_with (first
        | (go_at_call 46; (with_reducible refine (RNUMB_any p0 ?_ _).mono ?_); (unfold maxLen; omega); rintro e w5 ⟨rfl, rfl⟩; rw [HG0.out])
        | (go_at_call 46; (with_reducible refine (RNUMB_any smp ?_ _).mono ?_); (unfold maxLen; omega); rintro e w5 ⟨rfl, rfl⟩; rw [HG1.out]))
      refine bodyPost_ret (v := .tuple #[.int .i64 0, .int .i64 10]) (by simp [results, Tryz.results11, go_sem]) rfl ?_
      unfold ReadOut
      exact ⟨(0, 10), rfl, HT.out, HB2.out⟩
    by_cases l1 : smp.size ≤ 7
    rotate_left
    · have HT := Lib.hid (HNO.out (fun t h e => l1 (by have h1 := (HPA.out t h e).ls; rw [len_data] at h1; exact h1)))
      have hq : decide ((7 : Int) < (smp.size : Int)) = true := by simp; omega
      go_wp2_with (first
        | (go_at_call 46; (with_reducible refine (RNUMB_any p0 ?_ _).mono ?_); (unfold maxLen; omega); rintro e w5 ⟨rfl, rfl⟩; rw [HG0.out])
        | (go_at_call 46; (with_reducible refine (RNUMB_any smp ?_ _).mono ?_); (unfold maxLen; omega); rintro e w5 ⟨rfl, rfl⟩; rw [HG1.out]))
      refine bodyPost_ret (v := .tuple #[.int .i64 0, .int .i64 10]) (by simp [results, Tryz.results11, go_sem]) rfl ?_
      unfold ReadOut
      exact ⟨(0, 10), rfl, HT.out, HB2.out⟩
    by_cases l2 : p1.size = 2
    rotate_left
    · have HT := Lib.hid (HNO.out (fun t h e => l2 (by have h1 := (HPT.out t h e).2.1.1; rw [len_data] at h1; exact h1)))
      have hq : ((p1.size : Int) != 2) = true := by simp; omega
      go_wp2_with (first
        | (go_at_call 46; (with_reducible refine (RNUMB_any p0 ?_ _).mono ?_); (unfold maxLen; omega); rintro e w5 ⟨rfl, rfl⟩; rw [HG0.out])
        | (go_at_call 46; (with_reducible refine (RNUMB_any smp ?_ _).mono ?_); (unfold maxLen; omega); rintro e w5 ⟨rfl, rfl⟩; rw [HG1.out]))
      refine bodyPost_ret (v := .tuple #[.int .i64 0, .int .i64 10]) (by simp [results, Tryz.results11, go_sem]) rfl ?_
      unfold ReadOut
      exact ⟨(0, 10), rfl, HT.out, HB2.out⟩
    by_cases l3 : p2.size = 2
    rotate_left
    · have HT := Lib.hid (HNO.out (fun t h e => l3 (by have h1 := (HPT.out t h e).2.2.1.1; rw [len_data] at h1; exact h1)))
      have hq : ((p2.size : Int) != 2) = true := by simp; omega
      have hq1 : ((p1.size : Int) != 2) = false := by simp; omega
      go_wp2_with (first
        | (go_at_call 46; (with_reducible refine (RNUMB_any p0 ?_ _).mono ?_); (unfold maxLen; omega); rintro e w5 ⟨rfl, rfl⟩; rw [HG0.out])
        | (go_at_call 46; (with_reducible refine (RNUMB_any smp ?_ _).mono ?_); (unfold maxLen; omega); rintro e w5 ⟨rfl, rfl⟩; rw [HG1.out]))
      refine bodyPost_ret (v := .tuple #[.int .i64 0, .int .i64 10]) (by simp [results, Tryz.results11, go_sem]) rfl ?_
      unfold ReadOut
      exact ⟨(0, 10), rfl, HT.out, HB2.out⟩
    have hq1 : ((p1.size : Int) != 2) = false := by simp; omega
    have hq2 : ((p2.size : Int) != 2) = false := by simp; omega
    have HVAL := Lib.hid (fun t h e => (HPT.out t h e).2.2.2)
    have D0 : Hid (AllDig p0.data.toList) := g0.1
    have DS : Hid (AllDig smp.data.toList) := g1.1
    have z0 := good_size g0
    have z1 := good_size g1
    clear g0 g1
    go_upto_region 10 with (first
      | (go_at_call 46; (with_reducible refine (RNUMB_any p0 ?_ _).mono ?_); (unfold maxLen; omega); rintro e w5 ⟨rfl, rfl⟩; rw [HG0.out])
      | (go_at_call 46; (with_reducible refine (RNUMB_any smp ?_ _).mono ?_); (unfold maxLen; omega); rintro e w5 ⟨rfl, rfl⟩; rw [HG1.out]))
    clear hq1 hq2 HG0 HG1
    go_wp2_with fail
    go_loop [12] (fun i => (i = .int .i64 1) ∨ (i = .int .i64 2 ∧ Hid (AllDig p1.data.toList)) ∨ (i = .int .i64 3 ∧ Hid (AllDig p1.data.toList) ∧ Hid (AllDig p2.data.toList))) (fun i => 3 - (intOf i).toNat)
    case atStart => exact .inl rfl
    case round =>
      rcases hrel with rfl | ⟨rfl, D1⟩ | ⟨rfl, D1, D2⟩
      · skip
        go_wp2_with fail
        go_loop [13] (fun i => ∃ j : Nat, j ≤ 2 ∧ i = .int .i64 j ∧ Hid (AllDig (p1.data.toList.take j))) (fun i => 2 - (intOf i).toNat)
        case atStart => exact ⟨0, Nat.zero_le _, rfl, by show AllDig _; intro c hc; simp at hc⟩
        case round =>
          obtain ⟨j, hj, rfl, HD⟩ := hrel
          have hj0 : (0 : Int) ≤ (j : Int) := by omega
          by_cases hlt2 : j < 2
          · have hlt : j < p1.size := by omega
            have hjI : (j : Int) < 2 := by omega
            have hby := at_getD p1 hlt
            have hmem : p1.data.toList.getD j 0 ∈ p1.data.toList := getD_mem (by rw [len_data]; exact hlt)
            obtain ⟨y, hy⟩ : ∃ x, p1[j].toNat = x := ⟨_, rfl⟩
            have HY : Hid ((p1.data.toList.getD j 0).toNat = y) := by show _ = _; rw [← hby]; exact hy
            clear hby
            by_cases h1 : 48 ≤ y ∧ y ≤ 57
            · obtain ⟨h1, h2⟩ := h1
              have hd1 : decide ((y : Int) < 48) = false := by simp; omega
              have hd2 : decide ((57 : Int) < (y : Int)) = false := by simp; omega
              go_wp2_with fail
              go_round
              case rel =>
                refine ⟨j + 1, by omega, by go_num, ?_⟩
                show AllDig _
                rw [List.take_succ_eq_append_getElem (by rw [len_data]; exact hlt)]
                intro c hc
                rcases List.mem_append.1 hc with h | h
                · exact HD.out c h
                · simp only [List.mem_singleton] at h
                  have e : p1.data.toList[j]'(by rw [len_data]; exact hlt) = p1.data.toList.getD j 0 := by simp [List.getD, hlt]
                  rw [h, e, HY.out]
                  exact ⟨h1, h2⟩
              case measure => simp [intOf] <;> omega
            · have HT := Lib.hid (HNO.out (fun t h e => by
                have h9 := ((fun t h e => (HPT.out t h e).2.1) t h e).2 _ hmem
                rw [HY.out] at h9
                exact h1 h9))
              by_cases h3 : y < 48
              · have hd1 : decide ((y : Int) < 48) = true := by simp; omega
                clear h1
                go_wp2_with fail
                refine bodyPost_ret (v := .tuple #[.int .i64 0, .int .i64 10]) (by simp [results, Tryz.results11, go_sem]) rfl ?_
                unfold ReadOut
                exact ⟨(0, 10), rfl, HT.out, HB2.out⟩
              · have hd1 : decide ((y : Int) < 48) = false := by simp; omega
                have hd2 : decide ((57 : Int) < (y : Int)) = true := by simp; omega
                clear h1
                go_wp2_with fail
                refine bodyPost_ret (v := .tuple #[.int .i64 0, .int .i64 10]) (by simp [results, Tryz.results11, go_sem]) rfl ?_
                unfold ReadOut
                exact ⟨(0, 10), rfl, HT.out, HB2.out⟩
          · obtain rfl : j = 2 := by omega
            have HAL : Hid (AllDig p1.data.toList) := by
              have := HD.out
              rwa [List.take_of_length_le (by rw [len_data]; omega)] at this
            go_wp2_with fail
            go_round
            case rel => exact .inr (.inl ⟨rfl, HAL⟩)
            case measure => simp [intOf]
      · skip
        go_wp2_with fail
        go_loop [13] (fun i => ∃ j : Nat, j ≤ 2 ∧ i = .int .i64 j ∧ Hid (AllDig (p2.data.toList.take j))) (fun i => 2 - (intOf i).toNat)
        case atStart => exact ⟨0, Nat.zero_le _, rfl, by show AllDig _; intro c hc; simp at hc⟩
        case round =>
          obtain ⟨j, hj, rfl, HD⟩ := hrel
          have hj0 : (0 : Int) ≤ (j : Int) := by omega
          by_cases hlt2 : j < 2
          · have hlt : j < p2.size := by omega
            have hjI : (j : Int) < 2 := by omega
            have hby := at_getD p2 hlt
            have hmem : p2.data.toList.getD j 0 ∈ p2.data.toList := getD_mem (by rw [len_data]; exact hlt)
            obtain ⟨y, hy⟩ : ∃ x, p2[j].toNat = x := ⟨_, rfl⟩
            have HY : Hid ((p2.data.toList.getD j 0).toNat = y) := by show _ = _; rw [← hby]; exact hy
            clear hby
            by_cases h1 : 48 ≤ y ∧ y ≤ 57
            · obtain ⟨h1, h2⟩ := h1
              have hd1 : decide ((y : Int) < 48) = false := by simp; omega
              have hd2 : decide ((57 : Int) < (y : Int)) = false := by simp; omega
              go_wp2_with fail
              go_round
              case rel =>
                refine ⟨j + 1, by omega, by go_num, ?_⟩
                show AllDig _
                rw [List.take_succ_eq_append_getElem (by rw [len_data]; exact hlt)]
                intro c hc
                rcases List.mem_append.1 hc with h | h
                · exact HD.out c h
                · simp only [List.mem_singleton] at h
                  have e : p2.data.toList[j]'(by rw [len_data]; exact hlt) = p2.data.toList.getD j 0 := by simp [List.getD, hlt]
                  rw [h, e, HY.out]
                  exact ⟨h1, h2⟩
              case measure => simp [intOf] <;> omega
            · have HT := Lib.hid (HNO.out (fun t h e => by
                have h9 := ((fun t h e => (HPT.out t h e).2.2.1) t h e).2 _ hmem
                rw [HY.out] at h9
                exact h1 h9))
              by_cases h3 : y < 48
              · have hd1 : decide ((y : Int) < 48) = true := by simp; omega
                clear h1
                go_wp2_with fail
                refine bodyPost_ret (v := .tuple #[.int .i64 0, .int .i64 10]) (by simp [results, Tryz.results11, go_sem]) rfl ?_
                unfold ReadOut
                exact ⟨(0, 10), rfl, HT.out, HB2.out⟩
              · have hd1 : decide ((y : Int) < 48) = false := by simp; omega
                have hd2 : decide ((57 : Int) < (y : Int)) = true := by simp; omega
                clear h1
                go_wp2_with fail
                refine bodyPost_ret (v := .tuple #[.int .i64 0, .int .i64 10]) (by simp [results, Tryz.results11, go_sem]) rfl ?_
                unfold ReadOut
                exact ⟨(0, 10), rfl, HT.out, HB2.out⟩
          · obtain rfl : j = 2 := by omega
            have HAL : Hid (AllDig p2.data.toList) := by
              have := HD.out
              rwa [List.take_of_length_le (by rw [len_data]; omega)] at this
            go_wp2_with fail
            go_round
            case rel => exact .inr (.inr ⟨rfl, D1, HAL⟩)
            case measure => simp [intOf]
      · obtain ⟨d0, hd0⟩ : ∃ d : Nat, decV p0.data.toList = d := ⟨_, rfl⟩
        obtain ⟨d1, hd1⟩ : ∃ d : Nat, decV p1.data.toList = d := ⟨_, rfl⟩
        obtain ⟨d2, hd2⟩ : ∃ d : Nat, decV p2.data.toList = d := ⟨_, rfl⟩
        obtain ⟨d3, hd3⟩ : ∃ d : Nat, decV smp.data.toList = d := ⟨_, rfl⟩
        have hx0 := decV_lt 11 p0.data.toList (by rw [len_data]; exact l0) D0.out
        have hx1 := decV_lt 2 p1.data.toList (by rw [len_data]; omega) D1.out
        have hx2 := decV_lt 2 p2.data.toList (by rw [len_data]; omega) D2.out
        have hx3 := decV_lt 7 smp.data.toList (by rw [len_data]; exact l1) DS.out
        rw [hd0] at hx0
        rw [hd1] at hx1
        rw [hd2] at hx2
        rw [hd3] at hx3
        have b0 : (d0 : Int) < 100000000000 := by omega
        have b1 : (d1 : Int) < 100 := by omega
        have b2 : (d2 : Int) < 100 := by omega
        have b3 : (d3 : Int) < 10000000 := by omega
        have E0 := Lib.hid hd0
        have E1 := Lib.hid hd1
        have E2 := Lib.hid hd2
        have E3 := Lib.hid hd3
        have HVV : Hid (∀ t : Int, okPos t = true → showTxt t r = s.data.toList → (if false then -((((d0 * 60 + d1) * 60 + d2) * r + d3 : Nat) : Int) else ((((d0 * 60 + d1) * 60 + d2) * r + d3 : Nat) : Int)) = t) := by
          have h := HVAL.out
          rw [hd0, hd1, hd2, hd3] at h
          exact h
        clear hx0 hx1 hx2 hx3 hd0 hd1 hd2 hd3 HVAL HPT HPA HP HCUT
        go_wp2_with fail
        refine (ATOI_any p0 (by omega) z0 D0 _).mono ?_
        rw [E0.out]
        rintro e w3 ⟨rfl, hb3⟩
        have HB3 := Lib.hid hb3
        have hq3 := Lib.hid ((HB3.out.block gs hgs).trans HPC.out)
        obtain ⟨u0, u1, u2, _, _, _⟩ := tri_cells hq3.out
        clear hb3 q0 q1 q2
        go_wp2_with fail
        refine (ATOI_any p1 (by omega) (by omega) D1 _).mono ?_
        rw [E1.out]
        rintro e w4 ⟨rfl, hb4⟩
        have HB4 := Lib.hid (HB3.out.trans (hb4.mono HB3.out.size))
        have hq4 := Lib.hid ((HB4.out.block gs hgs).trans HPC.out)
        clear hb4 u0 u1 u2 hq3
        obtain ⟨u0, u1, u2, _, _, _⟩ := tri_cells hq4.out
        go_wp2_with fail
        refine (ATOI_any p2 (by omega) (by omega) D2 _).mono ?_
        rw [E2.out]
        rintro e w5 ⟨rfl, hb5⟩
        have HB5 := Lib.hid (HB4.out.trans (hb5.mono HB4.out.size))
        clear hb5 u0 u1 u2 hq4
        go_wp2_with fail
        refine (ATOI_any smp (by omega) z1 DS _).mono ?_
        rw [E3.out]
        rintro e w6 ⟨rfl, hb6⟩
        have HB6 := Lib.hid (HB2.out.trans ((HB5.out.trans (hb6.mono HB5.out.size)).mono hw02))
        clear hb6
        have kw1 : IntKind.i64.wrap ((d0 : Int) * 3600) = (d0 : Int) * 3600 := IntWalk.i64_in _ (by omega)
        have kw2 : IntKind.i64.wrap ((d1 : Int) * 60) = (d1 : Int) * 60 := IntWalk.i64_in _ (by omega)
        have kw3 : IntKind.i64.wrap ((d0 : Int) * 3600 + (d1 : Int) * 60) = (d0 : Int) * 3600 + (d1 : Int) * 60 := IntWalk.i64_in _ (by omega)
        have kw4 : IntKind.i64.wrap ((d0 : Int) * 3600 + (d1 : Int) * 60 + (d2 : Int)) = (d0 : Int) * 3600 + (d1 : Int) * 60 + (d2 : Int) := IntWalk.i64_in _ (by omega)
        have hp0 : (0 : Int) ≤ (d0 : Int) := by omega
        have hp1 : (0 : Int) ≤ (d1 : Int) := by omega
        have hp2 : (0 : Int) ≤ (d2 : Int) := by omega
        have hp3 : (0 : Int) ≤ (d3 : Int) := by omega
        go_wp2_with fail
        refine (RINT_any ((d0 : Int) * 3600 + (d1 : Int) * 60 + (d2 : Int)) (by omega) (by omega) _ (Lib.hid (ht.out.below HB6.out))).mono ?_
        rintro e w7 ⟨ng1, A1, n1, c1, D1', m1, d1', rfl, h1, k1, l1', hb7⟩
        have H1 := Lib.hid h1
        have HB7 := Lib.hid (HB6.out.trans (hb7.mono HB6.out.size))
        clear h1 hb7 kw1 kw2 kw3 kw4
        go_wp2_with fail
        refine (RINT_any (r : Int) (by omega) (by omega) _ (Lib.hid (ht.out.below HB7.out))).mono ?_
        rintro e w8 ⟨ng2, A2, n2, c2, D2', m2, d2', rfl, h2, k2, l2', hb8⟩
        have H2 := Lib.hid h2
        have H1' := Lib.hid (H1.out.to hb8 (Nat.le_refl _) hb8.size)
        have HB8 := Lib.hid (HB7.out.trans (hb8.mono HB7.out.size))
        clear h2 hb8 H1
        go_wp2_with fail
        refine (RNTIMES_any ng1 ng2 A1 A2 D1' D2' n1 c1 m1 d1' n2 c2 m2 d2' _ _ (by omega) (by omega) (by omega) (by omega) _ w8.heap.size (Nat.le_refl _) H1' H2).mono ?_
        rintro e w9 ⟨ng3, A3, n3, c3, D3, m3, d3', rfl, h3, k3, l3', hb9⟩
        have H3 := Lib.hid h3
        have HB9 := Lib.hid (HB8.out.trans (hb9.mono HB8.out.size))
        clear h3 hb9 H1' H2
        go_wp2_with fail
        refine (RINT_any (d3 : Int) (by omega) (by omega) _ (Lib.hid (ht.out.below HB9.out))).mono ?_
        rintro e w10 ⟨ng4, A4, n4, c4, D4, m4, d4, rfl, h4, k4, l4, hb10⟩
        have H4 := Lib.hid h4
        have H3' := Lib.hid (H3.out.to hb10 (Nat.le_refl _) hb10.size)
        have HB10 := Lib.hid (HB9.out.trans (hb10.mono HB9.out.size))
        clear h4 hb10 H3
        go_wp2_with fail
        refine (RPLUS_any ng3 ng4 A3 A4 D3 D4 n3 c3 m3 d3' n4 c4 m4 d4 _ _ (by omega) (by omega) (by omega) (by omega) _ w10.heap.size (Nat.le_refl _) H3' H4).mono ?_
        rintro e w11 ⟨ng5, A5, n5, c5, D5, m5, d5, rfl, h5, k5, l5, hb11⟩
        have HQ : (((d0 : Int) * 3600 + (d1 : Int) * 60 + (d2 : Int) : Int) : Rat) * ((r : Int) : Rat) + ((d3 : Int) : Rat) = (((((d0 * 60 + d1) * 60 + d2) * r + d3 : Nat) : Int) : Rat) := by
          rw [← Rat.intCast_mul, ← Rat.intCast_add, Int.natCast_add, Int.natCast_mul, show (((d0 * 60 + d1) * 60 + d2 : Nat) : Int) = (d0 : Int) * 3600 + (d1 : Int) * 60 + (d2 : Int) by omega]
        rw [HQ] at h5
        have H5 := Lib.hid h5
        have HB10' := Lib.hid (HB10.out.trans (hb11.mono HB10.out.size))
        obtain ⟨X, hX⟩ : ∃ X : Nat, ((d0 * 60 + d1) * 60 + d2) * r + d3 = X := ⟨_, rfl⟩
        rw [hX] at H5 HVV
        clear h5 hb11 H3' H4 HQ hX
        go_wp2_with fail
        refine (RROUND_any ng5 A5 D5 n5 c5 m5 d5 _ 2 10000000000000 (by omega) (by decide) (by omega) (by omega) _ (Lib.hid (ht.out.below HB10'.out)) w11.heap.size (Nat.le_refl _) H5).mono ?_
        rw [rnd_int]
        by_cases hXP : X ≤ 10000000000000
        rotate_left
        · rw [if_neg (by omega)]
          have HT := Lib.hid (HNO.out (fun t h e => by
            have h1 := HVV.out t h e
            have h2 := okPos_le h
            have h3 : t = -(X : Int) ∨ t = (X : Int) := by
              rw [← h1]; split <;> simp
            omega))
          rintro e w12 ⟨rfl, hb12⟩
          go_wp2_with fail
          refine bodyPost_ret (v := .tuple #[.int .i64 0, .int .i64 10]) (by simp [results, Tryz.results11, go_sem]) rfl ?_
          unfold ReadOut
          exact ⟨(0, 10), rfl, HT.out, HB10'.out.trans (hb12.mono HB10'.out.size)⟩
        · rw [if_pos (by omega)]
          rintro e w13 ⟨rfl, hb13⟩
          have HB11 := Lib.hid (HB10'.out.trans (hb13.mono HB10'.out.size))
          have ht11 : Hid (TabAt w13) := ht.out.below HB11.out
          have hX1 : (X : Int) ≤ 10000000000000 := by omega
          have hX0 : (0 : Int) ≤ (X : Int) := by omega
          clear hb13
          have HTV : Hid (∀ t : Int, okPos t = true → showTxt t r = s.data.toList → (X : Int) = t) := fun t h e => by
            have h1 := HVV.out t h e
            rw [if_neg (by decide)] at h1
            exact h1
          have HTT : Hid (∀ t : Int, okPos t = true → showTxt t r = s.data.toList → (X : Int) = t) := HTV
          obtain ⟨zz, hzz⟩ : ∃ z : Int, (X : Int) = z := ⟨_, rfl⟩
          rw [hzz] at HTT
          have HZZ := Lib.hid hzz
          clear hzz HTV
          have hok : okPos zz = true := by have := HZZ.out; unfold okPos; simp; omega
          have HOK := Lib.hid hok
          have HSH : Hid (showS zz r = (showTxt zz r, 0)) := by show _ = _; unfold showS; rw [if_neg (by rw [HOK.out, HRT.out]; simp), Int.toNat_natCast]
          clear hok
          go_wp2_with fail
          try rw [HZZ.out]
          refine (RSHOW_any zz r _ ht11).mono ?_
          rw [HSH.out]
          rintro e w12 ⟨z9, rfl, hz9, hb12⟩
          have HZ : Hid (z9.data.toList = showTxt zz r) := hz9
          have HB12 := Lib.hid (HB11.out.trans (hb12.mono HB11.out.size))
          clear hz9 hb12
          by_cases hzs : z9 = s
          · subst hzs
            have HT : Hid (ReadS (r : Int) z9.data.toList (zz, 0)) := HTS.out (zz, 0) (.inl ⟨rfl, HOK.out, HZ.out.symm⟩)
            go_wp2_with fail
            refine bodyPost_ret (v := .tuple #[.int .i64 zz, .int .i64 0]) (by simp [results, Tryz.results11, go_sem]) rfl ?_
            unfold ReadOut
            exact ⟨(zz, 0), rfl, HT.out, HB12.out⟩
          · have HT := Lib.hid (HNO.out (fun t h e => hzs (by
              have h1 := HTT.out t h e
              subst h1
              exact ByteArray.ext (Array.toList_inj.1 (by rw [HZ.out]; exact e)))))
            have hz1 : (z9.toList == s.toList) = false := by
              rw [ByteArray.toList_eq, ByteArray.toList_eq]
              simp only [beq_eq_false_iff_ne, ne_eq]
              exact fun e => hzs (ByteArray.ext (Array.toList_inj.1 e))
            go_wp2_with fail
            refine bodyPost_ret (v := .tuple #[.int .i64 0, .int .i64 10]) (by simp [results, Tryz.results11, go_sem]) rfl ?_
            unfold ReadOut
            exact ⟨(0, 10), rfl, HT.out, HB12.out⟩
  | true =>
    have hpos : 0 < s.size := by
      rw [← len_data]
      have h := HNG.out
      unfold negT at h
      cases hl : s.data.toList with
      | nil => rw [hl] at h; cases h
      | cons c r => simp
    have hp9 : (1 : Int) ≤ (s.size : Int) := by omega
    go_enter Tryz.func11, Tryz.ntmps11
    go_upto_region 6 with (first
      | (go_at_call 35; refine (RISRATE_any _ _).mono ?_; rintro e w2 ⟨rfl, rfl⟩; rw [HR.out])
      | (go_at_call 45; refine (HASPREFIX_any s _).mono ?_; rintro e w1 ⟨rfl, rfl⟩; rw [HNG.out]))
    obtain ⟨t, ht9⟩ : ∃ t : ByteArray, t = s.extract 1 s.size := ⟨_, rfl⟩
    have HTD : Hid (t.data.toList = bodyT s) := by
      show _ = _
      rw [ht9, Lib.extract_to_end]
      unfold bodyT Lib.trimPrefix
      rw [if_pos (show Lib.hasPrefix s.data.toList [45] = true from HNG.out)]; rfl
    have hts : t.size ≤ s.size := by
      rw [← len_data, ← len_data, ht9, Lib.extract_to_end, List.length_drop]; omega
    rw [← ht9]
    clear ht9 hpos hp9
    -- STOP2
    go_wp2_with fail
    refine (SCUT_any 43 t m (by omega) _ hm).mono ?_
    rintro e w1 ⟨left, smp, ok, rfl, HCUT, hlz, hsz, hb1⟩
    have HB1 := Lib.hid hb1
    have hs1 := hb1.size
    have hm1 : Hid (w1.cell? ⟨0, 0, none⟩ = some (.int .i64 m)) := (HB1.out.cell (p := ⟨0, 0, none⟩) hmx).trans hm.out
    clear hb1
    go_wp2_with fail
    refine (SPLITC_any 58 left m (by omega) _ hm1).mono ?_
    rintro e w2 ⟨gs, k, P, rfl, hk, HP, HPC, hb2⟩
    obtain ⟨W2, rfl⟩ : ∃ x : World, x = w2 := ⟨_, rfl⟩
    have hs2 := hb2.out.size
    have HB2 := Lib.hid (HB1.out.trans (hb2.out.mono HB1.out.size))
    have hw02 : w.heap.size ≤ W2.heap.size := HB2.out.size
    have ht2 : Hid (TabAt W2) := ht.out.below HB2.out
    have hgs := blk_lt HPC.out
    have HPA : Hid (∀ t : Int, okPos t = true → showTxt t r = s.data.toList → ReadsAs r s.data.toList true ok left.data.toList smp.data.toList t) := fun x hx e => by
      have h := read_parts (txt := s.data.toList) (by omega) (by omega) (show Lib.cut (Lib.trimPrefix s.data.toList [45]) [43] = (left.data.toList, smp.data.toList, ok) by have h9 := HCUT.out; rw [HTD.out] at h9; exact h9) hx e
      rw [show Lib.hasPrefix s.data.toList [45] = true from HNG.out] at h
      exact h
    clear hb2 hm1
    cases ok with
    | false =>
      have HT := Lib.hid (HNO.out (fun t h e => absurd (HPA.out t h e).ok (by decide)))
      go_wp2_with fail
      refine bodyPost_ret (v := .tuple #[.int .i64 0, .int .i64 10]) (by simp [results, Tryz.results11, go_sem]) rfl ?_
      unfold ReadOut
      exact ⟨(0, 10), rfl, HT.out, HB2.out⟩
    | true =>
    by_cases h3 : k = 3
    rotate_left
    · have HT := Lib.hid (HNO.out (fun t h e => h3 (by have h1 := (HPA.out t h e).cnt; have h2 := HP.out.1; omega)))
      have hq : ((k : Int) != 3) = true := by simp; omega
      clear hk h3
      go_wp2_with fail
      refine bodyPost_ret (v := .tuple #[.int .i64 0, .int .i64 10]) (by simp [results, Tryz.results11, go_sem]) rfl ?_
      unfold ReadOut
      exact ⟨(0, 10), rfl, HT.out, HB2.out⟩
    subst h3
    obtain ⟨p0, p1, p2, rfl, hc3, hs3⟩ := partsC3 HP.out hk
    have hz0 : p0.size ≤ left.size := by have := splitC_le 58 2 _ p0.data.toList (by rw [hs3]; simp); rw [len_data, len_data] at this; omega
    have hz1 : p1.size ≤ left.size := by have := splitC_le 58 2 _ p1.data.toList (by rw [hs3]; simp); rw [len_data, len_data] at this; omega
    have hz2 : p2.size ≤ left.size := by have := splitC_le 58 2 _ p2.data.toList (by rw [hs3]; simp); rw [len_data, len_data] at this; omega
    have HPT : Hid (∀ t : Int, okPos t = true → showTxt t r = s.data.toList → (GoodD p0.data.toList ∧ p0.data.toList.length ≤ 11) ∧ PairD p1.data.toList ∧ PairD p2.data.toList ∧
      (if true then -((((decV p0.data.toList * 60 + decV p1.data.toList) * 60 + decV p2.data.toList) * r + decV smp.data.toList : Nat) : Int) else ((((decV p0.data.toList * 60 + decV p1.data.toList) * 60 + decV p2.data.toList) * r + decV smp.data.toList : Nat) : Int)) = t) := fun t h e => (HPA.out t h e).parts _ _ _ hs3
    obtain ⟨q0, q1, q2, _, _, _⟩ := tri_cells HPC.out
    clear hk hc3 hs3
    by_cases g0 : GoodD p0.data.toList
    rotate_left
    · have HT := Lib.hid (HNO.out (fun t h e => g0 (HPT.out t h e).1.1))
      have HG0 := Lib.hid (goodD_false g0)
      clear g0
      go_wp2_with (first
        | (go_at_call 46; (with_reducible refine (RNUMB_any p0 ?_ _).mono ?_); (unfold maxLen; omega); rintro e w5 ⟨rfl, rfl⟩; rw [HG0.out])
        | (go_at_call 46; (with_reducible refine (RNUMB_any smp ?_ _).mono ?_); (unfold maxLen; omega); rintro e w5 ⟨rfl, rfl⟩; rw [HG1.out]))
      refine bodyPost_ret (v := .tuple #[.int .i64 0, .int .i64 10]) (by simp [results, Tryz.results11, go_sem]) rfl ?_
      unfold ReadOut
      exact ⟨(0, 10), rfl, HT.out, HB2.out⟩
    have HG0 := Lib.hid (goodD_true g0)
    by_cases g1 : GoodD smp.data.toList
    rotate_left
    · have HT := Lib.hid (HNO.out (fun t h e => g1 (HPA.out t h e).gs))
      have HG1 := Lib.hid (goodD_false g1)
      clear g1
      go_wp2_with (first
        | (go_at_call 46; (with_reducible refine (RNUMB_any p0 ?_ _).mono ?_); (unfold maxLen; omega); rintro e w5 ⟨rfl, rfl⟩; rw [HG0.out])
        | (go_at_call 46; (with_reducible refine (RNUMB_any smp ?_ _).mono ?_); (unfold maxLen; omega); rintro e w5 ⟨rfl, rfl⟩; rw [HG1.out]))
      refine bodyPost_ret (v := .tuple #[.int .i64 0, .int .i64 10]) (by simp [results, Tryz.results11, go_sem]) rfl ?_
      unfold ReadOut
      exact ⟨(0, 10), rfl, HT.out, HB2.out⟩
    have HG1 := Lib.hid (goodD_true g1)
    by_cases l0 : p0.size ≤ 11
    rotate_left
    · have HT := Lib.hid (HNO.out (fun t h e => l0 (by have h1 := (HPT.out t h e).1.2; rw [len_data] at h1; exact h1)))
      have hq : decide ((11 : Int) < (p0.size : Int)) = true := by simp; omega
      go_wp2_with (first
        | (go_at_call 46; (with_reducible refine (RNUMB_any p0 ?_ _).mono ?_); (unfold maxLen; omega); rintro e w5 ⟨rfl, rfl⟩; rw [HG0.out])
        | (go_at_call 46; (with_reducible refine (RNUMB_any smp ?_ _).mono ?_); (unfold maxLen; omega); rintro e w5 ⟨rfl, rfl⟩; rw [HG1.out]))
      refine bodyPost_ret (v := .tuple #[.int .i64 0, .int .i64 10]) (by simp [results, Tryz.results11, go_sem]) rfl ?_
      unfold ReadOut
      exact ⟨(0, 10), rfl, HT.out, HB2.out⟩
    by_cases l1 : smp.size ≤ 7
    rotate_left
    · have HT := Lib.hid (HNO.out (fun t h e => l1 (by have h1 := (HPA.out t h e).ls; rw [len_data] at h1; exact h1)))
      have hq : decide ((7 : Int) < (smp.size : Int)) = true := by simp; omega
      go_wp2_with (first
        | (go_at_call 46; (with_reducible refine (RNUMB_any p0 ?_ _).mono ?_); (unfold maxLen; omega); rintro e w5 ⟨rfl, rfl⟩; rw [HG0.out])
        | (go_at_call 46; (with_reducible refine (RNUMB_any smp ?_ _).mono ?_); (unfold maxLen; omega); rintro e w5 ⟨rfl, rfl⟩; rw [HG1.out]))
      refine bodyPost_ret (v := .tuple #[.int .i64 0, .int .i64 10]) (by simp [results, Tryz.results11, go_sem]) rfl ?_
      unfold ReadOut
      exact ⟨(0, 10), rfl, HT.out, HB2.out⟩
    by_cases l2 : p1.size = 2
    rotate_left
    · have HT := Lib.hid (HNO.out (fun t h e => l2 (by have h1 := (HPT.out t h e).2.1.1; rw [len_data] at h1; exact h1)))
      have hq : ((p1.size : Int) != 2) = true := by simp; omega
      go_wp2_with (first
        | (go_at_call 46; (with_reducible refine (RNUMB_any p0 ?_ _).mono ?_); (unfold maxLen; omega); rintro e w5 ⟨rfl, rfl⟩; rw [HG0.out])
        | (go_at_call 46; (with_reducible refine (RNUMB_any smp ?_ _).mono ?_); (unfold maxLen; omega); rintro e w5 ⟨rfl, rfl⟩; rw [HG1.out]))
      refine bodyPost_ret (v := .tuple #[.int .i64 0, .int .i64 10]) (by simp [results, Tryz.results11, go_sem]) rfl ?_
      unfold ReadOut
      exact ⟨(0, 10), rfl, HT.out, HB2.out⟩
    by_cases l3 : p2.size = 2
    rotate_left
    · have HT := Lib.hid (HNO.out (fun t h e => l3 (by have h1 := (HPT.out t h e).2.2.1.1; rw [len_data] at h1; exact h1)))
      have hq : ((p2.size : Int) != 2) = true := by simp; omega
      have hq1 : ((p1.size : Int) != 2) = false := by simp; omega
      go_wp2_with (first
        | (go_at_call 46; (with_reducible refine (RNUMB_any p0 ?_ _).mono ?_); (unfold maxLen; omega); rintro e w5 ⟨rfl, rfl⟩; rw [HG0.out])
        | (go_at_call 46; (with_reducible refine (RNUMB_any smp ?_ _).mono ?_); (unfold maxLen; omega); rintro e w5 ⟨rfl, rfl⟩; rw [HG1.out]))
      refine bodyPost_ret (v := .tuple #[.int .i64 0, .int .i64 10]) (by simp [results, Tryz.results11, go_sem]) rfl ?_
      unfold ReadOut
      exact ⟨(0, 10), rfl, HT.out, HB2.out⟩
    have hq1 : ((p1.size : Int) != 2) = false := by simp; omega
    have hq2 : ((p2.size : Int) != 2) = false := by simp; omega
    have HVAL := Lib.hid (fun t h e => (HPT.out t h e).2.2.2)
    have D0 : Hid (AllDig p0.data.toList) := g0.1
    have DS : Hid (AllDig smp.data.toList) := g1.1
    have z0 := good_size g0
    have z1 := good_size g1
    clear g0 g1
    go_upto_region 10 with (first
      | (go_at_call 46; (with_reducible refine (RNUMB_any p0 ?_ _).mono ?_); (unfold maxLen; omega); rintro e w5 ⟨rfl, rfl⟩; rw [HG0.out])
      | (go_at_call 46; (with_reducible refine (RNUMB_any smp ?_ _).mono ?_); (unfold maxLen; omega); rintro e w5 ⟨rfl, rfl⟩; rw [HG1.out]))
    clear hq1 hq2 HG0 HG1
    go_wp2_with fail
    go_loop [12] (fun i => (i = .int .i64 1) ∨ (i = .int .i64 2 ∧ Hid (AllDig p1.data.toList)) ∨ (i = .int .i64 3 ∧ Hid (AllDig p1.data.toList) ∧ Hid (AllDig p2.data.toList))) (fun i => 3 - (intOf i).toNat)
    case atStart => exact .inl rfl
    case round =>
      rcases hrel with rfl | ⟨rfl, D1⟩ | ⟨rfl, D1, D2⟩
      · skip
        go_wp2_with fail
        go_loop [13] (fun i => ∃ j : Nat, j ≤ 2 ∧ i = .int .i64 j ∧ Hid (AllDig (p1.data.toList.take j))) (fun i => 2 - (intOf i).toNat)
        case atStart => exact ⟨0, Nat.zero_le _, rfl, by show AllDig _; intro c hc; simp at hc⟩
        case round =>
          obtain ⟨j, hj, rfl, HD⟩ := hrel
          have hj0 : (0 : Int) ≤ (j : Int) := by omega
          by_cases hlt2 : j < 2
          · have hlt : j < p1.size := by omega
            have hjI : (j : Int) < 2 := by omega
            have hby := at_getD p1 hlt
            have hmem : p1.data.toList.getD j 0 ∈ p1.data.toList := getD_mem (by rw [len_data]; exact hlt)
            obtain ⟨y, hy⟩ : ∃ x, p1[j].toNat = x := ⟨_, rfl⟩
            have HY : Hid ((p1.data.toList.getD j 0).toNat = y) := by show _ = _; rw [← hby]; exact hy
            clear hby
            by_cases h1 : 48 ≤ y ∧ y ≤ 57
            · obtain ⟨h1, h2⟩ := h1
              have hd1 : decide ((y : Int) < 48) = false := by simp; omega
              have hd2 : decide ((57 : Int) < (y : Int)) = false := by simp; omega
              go_wp2_with fail
              go_round
              case rel =>
                refine ⟨j + 1, by omega, by go_num, ?_⟩
                show AllDig _
                rw [List.take_succ_eq_append_getElem (by rw [len_data]; exact hlt)]
                intro c hc
                rcases List.mem_append.1 hc with h | h
                · exact HD.out c h
                · simp only [List.mem_singleton] at h
                  have e : p1.data.toList[j]'(by rw [len_data]; exact hlt) = p1.data.toList.getD j 0 := by simp [List.getD, hlt]
                  rw [h, e, HY.out]
                  exact ⟨h1, h2⟩
              case measure => simp [intOf] <;> omega
            · have HT := Lib.hid (HNO.out (fun t h e => by
                have h9 := ((fun t h e => (HPT.out t h e).2.1) t h e).2 _ hmem
                rw [HY.out] at h9
                exact h1 h9))
              by_cases h3 : y < 48
              · have hd1 : decide ((y : Int) < 48) = true := by simp; omega
                clear h1
                go_wp2_with fail
                refine bodyPost_ret (v := .tuple #[.int .i64 0, .int .i64 10]) (by simp [results, Tryz.results11, go_sem]) rfl ?_
                unfold ReadOut
                exact ⟨(0, 10), rfl, HT.out, HB2.out⟩
              · have hd1 : decide ((y : Int) < 48) = false := by simp; omega
                have hd2 : decide ((57 : Int) < (y : Int)) = true := by simp; omega
                clear h1
                go_wp2_with fail
                refine bodyPost_ret (v := .tuple #[.int .i64 0, .int .i64 10]) (by simp [results, Tryz.results11, go_sem]) rfl ?_
                unfold ReadOut
                exact ⟨(0, 10), rfl, HT.out, HB2.out⟩
          · obtain rfl : j = 2 := by omega
            have HAL : Hid (AllDig p1.data.toList) := by
              have := HD.out
              rwa [List.take_of_length_le (by rw [len_data]; omega)] at this
            go_wp2_with fail
            go_round
            case rel => exact .inr (.inl ⟨rfl, HAL⟩)
            case measure => simp [intOf]
      · skip
        go_wp2_with fail
        go_loop [13] (fun i => ∃ j : Nat, j ≤ 2 ∧ i = .int .i64 j ∧ Hid (AllDig (p2.data.toList.take j))) (fun i => 2 - (intOf i).toNat)
        case atStart => exact ⟨0, Nat.zero_le _, rfl, by show AllDig _; intro c hc; simp at hc⟩
        case round =>
          obtain ⟨j, hj, rfl, HD⟩ := hrel
          have hj0 : (0 : Int) ≤ (j : Int) := by omega
          by_cases hlt2 : j < 2
          · have hlt : j < p2.size := by omega
            have hjI : (j : Int) < 2 := by omega
            have hby := at_getD p2 hlt
            have hmem : p2.data.toList.getD j 0 ∈ p2.data.toList := getD_mem (by rw [len_data]; exact hlt)
            obtain ⟨y, hy⟩ : ∃ x, p2[j].toNat = x := ⟨_, rfl⟩
            have HY : Hid ((p2.data.toList.getD j 0).toNat = y) := by show _ = _; rw [← hby]; exact hy
            clear hby
            by_cases h1 : 48 ≤ y ∧ y ≤ 57
            · obtain ⟨h1, h2⟩ := h1
              have hd1 : decide ((y : Int) < 48) = false := by simp; omega
              have hd2 : decide ((57 : Int) < (y : Int)) = false := by simp; omega
              go_wp2_with fail
              go_round
              case rel =>
                refine ⟨j + 1, by omega, by go_num, ?_⟩
                show AllDig _
                rw [List.take_succ_eq_append_getElem (by rw [len_data]; exact hlt)]
                intro c hc
                rcases List.mem_append.1 hc with h | h
                · exact HD.out c h
                · simp only [List.mem_singleton] at h
                  have e : p2.data.toList[j]'(by rw [len_data]; exact hlt) = p2.data.toList.getD j 0 := by simp [List.getD, hlt]
                  rw [h, e, HY.out]
                  exact ⟨h1, h2⟩
              case measure => simp [intOf] <;> omega
            · have HT := Lib.hid (HNO.out (fun t h e => by
                have h9 := ((fun t h e => (HPT.out t h e).2.2.1) t h e).2 _ hmem
                rw [HY.out] at h9
                exact h1 h9))
              by_cases h3 : y < 48
              · have hd1 : decide ((y : Int) < 48) = true := by simp; omega
                clear h1
                go_wp2_with fail
                refine bodyPost_ret (v := .tuple #[.int .i64 0, .int .i64 10]) (by simp [results, Tryz.results11, go_sem]) rfl ?_
                unfold ReadOut
                exact ⟨(0, 10), rfl, HT.out, HB2.out⟩
              · have hd1 : decide ((y : Int) < 48) = false := by simp; omega
                have hd2 : decide ((57 : Int) < (y : Int)) = true := by simp; omega
                clear h1
                go_wp2_with fail
                refine bodyPost_ret (v := .tuple #[.int .i64 0, .int .i64 10]) (by simp [results, Tryz.results11, go_sem]) rfl ?_
                unfold ReadOut
                exact ⟨(0, 10), rfl, HT.out, HB2.out⟩
          · obtain rfl : j = 2 := by omega
            have HAL : Hid (AllDig p2.data.toList) := by
              have := HD.out
              rwa [List.take_of_length_le (by rw [len_data]; omega)] at this
            go_wp2_with fail
            go_round
            case rel => exact .inr (.inr ⟨rfl, D1, HAL⟩)
            case measure => simp [intOf]
      · obtain ⟨d0, hd0⟩ : ∃ d : Nat, decV p0.data.toList = d := ⟨_, rfl⟩
        obtain ⟨d1, hd1⟩ : ∃ d : Nat, decV p1.data.toList = d := ⟨_, rfl⟩
        obtain ⟨d2, hd2⟩ : ∃ d : Nat, decV p2.data.toList = d := ⟨_, rfl⟩
        obtain ⟨d3, hd3⟩ : ∃ d : Nat, decV smp.data.toList = d := ⟨_, rfl⟩
        have hx0 := decV_lt 11 p0.data.toList (by rw [len_data]; exact l0) D0.out
        have hx1 := decV_lt 2 p1.data.toList (by rw [len_data]; omega) D1.out
        have hx2 := decV_lt 2 p2.data.toList (by rw [len_data]; omega) D2.out
        have hx3 := decV_lt 7 smp.data.toList (by rw [len_data]; exact l1) DS.out
        rw [hd0] at hx0
        rw [hd1] at hx1
        rw [hd2] at hx2
        rw [hd3] at hx3
        have b0 : (d0 : Int) < 100000000000 := by omega
        have b1 : (d1 : Int) < 100 := by omega
        have b2 : (d2 : Int) < 100 := by omega
        have b3 : (d3 : Int) < 10000000 := by omega
        have E0 := Lib.hid hd0
        have E1 := Lib.hid hd1
        have E2 := Lib.hid hd2
        have E3 := Lib.hid hd3
        have HVV : Hid (∀ t : Int, okPos t = true → showTxt t r = s.data.toList → (if true then -((((d0 * 60 + d1) * 60 + d2) * r + d3 : Nat) : Int) else ((((d0 * 60 + d1) * 60 + d2) * r + d3 : Nat) : Int)) = t) := by
          have h := HVAL.out
          rw [hd0, hd1, hd2, hd3] at h
          exact h
        clear hx0 hx1 hx2 hx3 hd0 hd1 hd2 hd3 HVAL HPT HPA HP HCUT
        go_wp2_with fail
        refine (ATOI_any p0 (by omega) z0 D0 _).mono ?_
        rw [E0.out]
        rintro e w3 ⟨rfl, hb3⟩
        have HB3 := Lib.hid hb3
        have hq3 := Lib.hid ((HB3.out.block gs hgs).trans HPC.out)
        obtain ⟨u0, u1, u2, _, _, _⟩ := tri_cells hq3.out
        clear hb3 q0 q1 q2
        go_wp2_with fail
        refine (ATOI_any p1 (by omega) (by omega) D1 _).mono ?_
        rw [E1.out]
        rintro e w4 ⟨rfl, hb4⟩
        have HB4 := Lib.hid (HB3.out.trans (hb4.mono HB3.out.size))
        have hq4 := Lib.hid ((HB4.out.block gs hgs).trans HPC.out)
        clear hb4 u0 u1 u2 hq3
        obtain ⟨u0, u1, u2, _, _, _⟩ := tri_cells hq4.out
        go_wp2_with fail
        refine (ATOI_any p2 (by omega) (by omega) D2 _).mono ?_
        rw [E2.out]
        rintro e w5 ⟨rfl, hb5⟩
        have HB5 := Lib.hid (HB4.out.trans (hb5.mono HB4.out.size))
        clear hb5 u0 u1 u2 hq4
        go_wp2_with fail
        refine (ATOI_any smp (by omega) z1 DS _).mono ?_
        rw [E3.out]
        rintro e w6 ⟨rfl, hb6⟩
        have HB6 := Lib.hid (HB2.out.trans ((HB5.out.trans (hb6.mono HB5.out.size)).mono hw02))
        clear hb6
        have kw1 : IntKind.i64.wrap ((d0 : Int) * 3600) = (d0 : Int) * 3600 := IntWalk.i64_in _ (by omega)
        have kw2 : IntKind.i64.wrap ((d1 : Int) * 60) = (d1 : Int) * 60 := IntWalk.i64_in _ (by omega)
        have kw3 : IntKind.i64.wrap ((d0 : Int) * 3600 + (d1 : Int) * 60) = (d0 : Int) * 3600 + (d1 : Int) * 60 := IntWalk.i64_in _ (by omega)
        have kw4 : IntKind.i64.wrap ((d0 : Int) * 3600 + (d1 : Int) * 60 + (d2 : Int)) = (d0 : Int) * 3600 + (d1 : Int) * 60 + (d2 : Int) := IntWalk.i64_in _ (by omega)
        have hp0 : (0 : Int) ≤ (d0 : Int) := by omega
        have hp1 : (0 : Int) ≤ (d1 : Int) := by omega
        have hp2 : (0 : Int) ≤ (d2 : Int) := by omega
        have hp3 : (0 : Int) ≤ (d3 : Int) := by omega
        go_wp2_with fail
        refine (RINT_any ((d0 : Int) * 3600 + (d1 : Int) * 60 + (d2 : Int)) (by omega) (by omega) _ (Lib.hid (ht.out.below HB6.out))).mono ?_
        rintro e w7 ⟨ng1, A1, n1, c1, D1', m1, d1', rfl, h1, k1, l1', hb7⟩
        have H1 := Lib.hid h1
        have HB7 := Lib.hid (HB6.out.trans (hb7.mono HB6.out.size))
        clear h1 hb7 kw1 kw2 kw3 kw4
        go_wp2_with fail
        refine (RINT_any (r : Int) (by omega) (by omega) _ (Lib.hid (ht.out.below HB7.out))).mono ?_
        rintro e w8 ⟨ng2, A2, n2, c2, D2', m2, d2', rfl, h2, k2, l2', hb8⟩
        have H2 := Lib.hid h2
        have H1' := Lib.hid (H1.out.to hb8 (Nat.le_refl _) hb8.size)
        have HB8 := Lib.hid (HB7.out.trans (hb8.mono HB7.out.size))
        clear h2 hb8 H1
        go_wp2_with fail
        refine (RNTIMES_any ng1 ng2 A1 A2 D1' D2' n1 c1 m1 d1' n2 c2 m2 d2' _ _ (by omega) (by omega) (by omega) (by omega) _ w8.heap.size (Nat.le_refl _) H1' H2).mono ?_
        rintro e w9 ⟨ng3, A3, n3, c3, D3, m3, d3', rfl, h3, k3, l3', hb9⟩
        have H3 := Lib.hid h3
        have HB9 := Lib.hid (HB8.out.trans (hb9.mono HB8.out.size))
        clear h3 hb9 H1' H2
        go_wp2_with fail
        refine (RINT_any (d3 : Int) (by omega) (by omega) _ (Lib.hid (ht.out.below HB9.out))).mono ?_
        rintro e w10 ⟨ng4, A4, n4, c4, D4, m4, d4, rfl, h4, k4, l4, hb10⟩
        have H4 := Lib.hid h4
        have H3' := Lib.hid (H3.out.to hb10 (Nat.le_refl _) hb10.size)
        have HB10 := Lib.hid (HB9.out.trans (hb10.mono HB9.out.size))
        clear h4 hb10 H3
        go_wp2_with fail
        refine (RPLUS_any ng3 ng4 A3 A4 D3 D4 n3 c3 m3 d3' n4 c4 m4 d4 _ _ (by omega) (by omega) (by omega) (by omega) _ w10.heap.size (Nat.le_refl _) H3' H4).mono ?_
        rintro e w11 ⟨ng5, A5, n5, c5, D5, m5, d5, rfl, h5, k5, l5, hb11⟩
        have HQ : (((d0 : Int) * 3600 + (d1 : Int) * 60 + (d2 : Int) : Int) : Rat) * ((r : Int) : Rat) + ((d3 : Int) : Rat) = (((((d0 * 60 + d1) * 60 + d2) * r + d3 : Nat) : Int) : Rat) := by
          rw [← Rat.intCast_mul, ← Rat.intCast_add, Int.natCast_add, Int.natCast_mul, show (((d0 * 60 + d1) * 60 + d2 : Nat) : Int) = (d0 : Int) * 3600 + (d1 : Int) * 60 + (d2 : Int) by omega]
        rw [HQ] at h5
        have H5 := Lib.hid h5
        have HB10' := Lib.hid (HB10.out.trans (hb11.mono HB10.out.size))
        obtain ⟨X, hX⟩ : ∃ X : Nat, ((d0 * 60 + d1) * 60 + d2) * r + d3 = X := ⟨_, rfl⟩
        rw [hX] at H5 HVV
        clear h5 hb11 H3' H4 HQ hX
        go_wp2_with fail
        refine (RROUND_any ng5 A5 D5 n5 c5 m5 d5 _ 2 10000000000000 (by omega) (by decide) (by omega) (by omega) _ (Lib.hid (ht.out.below HB10'.out)) w11.heap.size (Nat.le_refl _) H5).mono ?_
        rw [rnd_int]
        by_cases hXP : X ≤ 10000000000000
        rotate_left
        · rw [if_neg (by omega)]
          have HT := Lib.hid (HNO.out (fun t h e => by
            have h1 := HVV.out t h e
            have h2 := okPos_le h
            have h3 : t = -(X : Int) ∨ t = (X : Int) := by
              rw [← h1]; split <;> simp
            omega))
          rintro e w12 ⟨rfl, hb12⟩
          go_wp2_with fail
          refine bodyPost_ret (v := .tuple #[.int .i64 0, .int .i64 10]) (by simp [results, Tryz.results11, go_sem]) rfl ?_
          unfold ReadOut
          exact ⟨(0, 10), rfl, HT.out, HB10'.out.trans (hb12.mono HB10'.out.size)⟩
        · rw [if_pos (by omega)]
          rintro e w13 ⟨rfl, hb13⟩
          have HB11 := Lib.hid (HB10'.out.trans (hb13.mono HB10'.out.size))
          have ht11 : Hid (TabAt w13) := ht.out.below HB11.out
          have hX1 : (X : Int) ≤ 10000000000000 := by omega
          have hX0 : (0 : Int) ≤ (X : Int) := by omega
          clear hb13
          have HTV : Hid (∀ t : Int, okPos t = true → showTxt t r = s.data.toList → -(X : Int) = t) := fun t h e => by
            have h1 := HVV.out t h e
            first | rw [if_pos rfl] at h1 | simp only [if_true] at h1
            exact h1
          have HTT : Hid (∀ t : Int, okPos t = true → showTxt t r = s.data.toList → -(X : Int) = t) := HTV
          obtain ⟨zz, hzz⟩ : ∃ z : Int, -(X : Int) = z := ⟨_, rfl⟩
          rw [hzz] at HTT
          have HZZ := Lib.hid hzz
          clear hzz HTV
          have hok : okPos zz = true := by have := HZZ.out; unfold okPos; simp; omega
          have HOK := Lib.hid hok
          have HSH : Hid (showS zz r = (showTxt zz r, 0)) := by show _ = _; unfold showS; rw [if_neg (by rw [HOK.out, HRT.out]; simp), Int.toNat_natCast]
          clear hok
          go_wp2_with fail
          try rw [HZZ.out]
          refine (RSHOW_any zz r _ ht11).mono ?_
          rw [HSH.out]
          rintro e w12 ⟨z9, rfl, hz9, hb12⟩
          have HZ : Hid (z9.data.toList = showTxt zz r) := hz9
          have HB12 := Lib.hid (HB11.out.trans (hb12.mono HB11.out.size))
          clear hz9 hb12
          by_cases hzs : z9 = s
          · subst hzs
            have HT : Hid (ReadS (r : Int) z9.data.toList (zz, 0)) := HTS.out (zz, 0) (.inl ⟨rfl, HOK.out, HZ.out.symm⟩)
            go_wp2_with fail
            refine bodyPost_ret (v := .tuple #[.int .i64 zz, .int .i64 0]) (by simp [results, Tryz.results11, go_sem]) rfl ?_
            unfold ReadOut
            exact ⟨(zz, 0), rfl, HT.out, HB12.out⟩
          · have HT := Lib.hid (HNO.out (fun t h e => hzs (by
              have h1 := HTT.out t h e
              subst h1
              exact ByteArray.ext (Array.toList_inj.1 (by rw [HZ.out]; exact e)))))
            have hz1 : (z9.toList == s.toList) = false := by
              rw [ByteArray.toList_eq, ByteArray.toList_eq]
              simp only [beq_eq_false_iff_ne, ne_eq]
              exact fun e => hzs (ByteArray.ext (Array.toList_inj.1 e))
            go_wp2_with fail
            refine bodyPost_ret (v := .tuple #[.int .i64 0, .int .i64 10]) (by simp [results, Tryz.results11, go_sem]) rfl ?_
            unfold ReadOut
            exact ⟨(0, 10), rfl, HT.out, HB12.out⟩
end Go.Proofs.YthgjgiccoobcgaaGreatDoor

/- ClockTextsMatchSpec, walked. -/
set_option linter.unusedSimpArgs false
set_option linter.unusedVariables false
namespace Go.Proofs.YthgjgiccoobcgaaGreatDoor
open Go.RowKit Go.Dw Go.Joins
set_option maxRecDepth 100000 in
set_option maxHeartbeats 4000000 in
theorem lawTm_walk (n rate : Int) (s : ByteArray) (m : Int) (hs : s.size ≤ 1048576) (w : World) (hm : Hid (w.cell? ⟨0, 0, none⟩ = some (.int .i64 m))) (hmx : 0 < w.heap.size) (ht : Hid (TabAt w)) :
    Calls Tryz.prog 4 #[.int .i64 n, .int .i64 rate, .string s] w fun e w' => e = .returned (.bool true) ∧ Below w.heap.size w w' := by
  obtain ⟨⟨bt, bf⟩, hbt⟩ : ∃ p, showS n rate = p := ⟨_, rfl⟩
  have HBT := Lib.hid hbt
  clear hbt
  have hs0 : w.heap.size ≤ w.heap.size := Nat.le_refl _
  have HB0 : Hid (Below w.heap.size w w) := Below.refl _ _
  go_enter Tryz.func4, Tryz.ntmps4
  go_wp2_with fail
  refine (SHOW_any n rate _ ht).mono ?_
  rw [HBT.out]
  rintro e w1 ⟨z1, rfl, hz1, hb1⟩
  have hs1 := Nat.le_trans hs0 hb1.size
  have HB1 := Lib.hid (HB0.out.trans (hb1.mono hs0))
  have ht1 : Hid (TabAt w1) := ht.out.below HB1.out
  have hm1 : Hid (w1.cell? ⟨0, 0, none⟩ = some (.int .i64 m)) := (HB1.out.cell (p := ⟨0, 0, none⟩) hmx).trans hm.out
  have hmx1 : 0 < w1.heap.size := Nat.lt_of_lt_of_le hmx hs1
  clear hb1
  dsimp only
  dsimp only at hz1
  have HZ1 := Lib.hid hz1
  clear hz1
  go_wp2_with fail
  refine (RSHOW_any n rate _ ht1).mono ?_
  rw [HBT.out]
  rintro e w2 ⟨z2, rfl, hz2, hb2⟩
  dsimp only at hz2
  obtain rfl : z2 = z1 := ba_eq (hz2.trans HZ1.out.symm)
  clear hz2 HZ1
  have hs2 := Nat.le_trans hs1 hb2.size
  have HB2 := Lib.hid (HB1.out.trans (hb2.mono hs1))
  have ht2 : Hid (TabAt w2) := ht.out.below HB2.out
  have hm2 : Hid (w2.cell? ⟨0, 0, none⟩ = some (.int .i64 m)) := (HB2.out.cell (p := ⟨0, 0, none⟩) hmx).trans hm.out
  have hmx2 : 0 < w2.heap.size := Nat.lt_of_lt_of_le hmx hs2
  clear hb2
  dsimp only
  go_wp2_with fail
  refine (READ_any s rate m hs _ hm2 hmx2 ht2).mono ?_
  rintro e w3 ⟨⟨k, g⟩, rfl, hz, hb3⟩
  have HTZ := Lib.hid (fun z' (h : ReadS rate s.data.toList z') => readS_uniq h hz)
  clear hz
  have hs3 := Nat.le_trans hs2 hb3.size
  have HB3 := Lib.hid (HB2.out.trans (hb3.mono hs2))
  have ht3 : Hid (TabAt w3) := ht.out.below HB3.out
  have hm3 : Hid (w3.cell? ⟨0, 0, none⟩ = some (.int .i64 m)) := (HB3.out.cell (p := ⟨0, 0, none⟩) hmx).trans hm.out
  have hmx3 : 0 < w3.heap.size := Nat.lt_of_lt_of_le hmx hs3
  clear hb3
  dsimp only
  go_wp2_with fail
  refine (RREAD_any s rate m hs _ hm3 hmx3 ht3).mono ?_
  rintro e w4 ⟨z, rfl, hz, hb4⟩
  obtain rfl : z = (k, g) := HTZ.out z hz
  clear hz HTZ
  have hs4 := Nat.le_trans hs3 hb4.size
  have HB4 := Lib.hid (HB3.out.trans (hb4.mono hs3))
  have ht4 : Hid (TabAt w4) := ht.out.below HB4.out
  have hm4 : Hid (w4.cell? ⟨0, 0, none⟩ = some (.int .i64 m)) := (HB4.out.cell (p := ⟨0, 0, none⟩) hmx).trans hm.out
  have hmx4 : 0 < w4.heap.size := Nat.lt_of_lt_of_le hmx hs4
  clear hb4
  dsimp only
  go_wp2_with (go_at_call 7; refine (AWAKE_any _).mono ?_; rintro e w5 ⟨rfl, hb5⟩)
  go_ret
  exact ⟨rfl, HB4.out.trans (hb5.mono hs4)⟩
theorem lawTm_walk2 (n rate : Int) (s : ByteArray) (hs : s.size ≤ 1048576) (w : World) (hm : ∃ m, w.cell? ⟨0, 0, none⟩ = some (.int .i64 m)) (ht : Hid (TabAt w)) :
    Calls Tryz.prog 4 #[.int .i64 n, .int .i64 rate, .string s] w fun e w' => e = .returned (.bool true) ∧ Below w.heap.size w w' := by
  obtain ⟨m, hm⟩ := hm
  obtain ⟨cs, e, fr, hb, _⟩ := Sort.cells_of_cell? hm
  exact lawTm_walk n rate s m hs w (Lib.hid hm) (blk_lt hb) ht
end Go.Proofs.YthgjgiccoobcgaaGreatDoor
