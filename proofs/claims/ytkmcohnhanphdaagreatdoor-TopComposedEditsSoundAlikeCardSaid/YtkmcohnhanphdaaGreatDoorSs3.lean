/- The stable sort of clips: symMerge, whole (printed by tools/mksort.py). -/
import Derived.Test.YtkmcohnhanphdaaGreatDoorUd
set_option linter.unusedSimpArgs false
set_option linter.unusedVariables false
namespace Go.Proofs.YtkmcohnhanphdaaGreatDoor
open Go.RowKit Go.Dw
attribute [local go_sem ↓] Go.wp_at_zero Go.wp_at_succ
set_option maxRecDepth 100000 in
set_option maxHeartbeats 16000000 in
theorem SYMMC_gen (base g n cap a m b : Nat) (cs : List CV) (ham : a + 2 ≤ m) (hmb : m + 2 ≤ b) (hbn : b ≤ n) (hn : n ≤ 1000000)
    (IH : Hid (∀ (a' m' b' : Nat) (cs' : List CV) (w' : World), a' < m' → m' < b' → b' ≤ n → b' - a' < b - a → Hid (OwnK 7 58 w' base (.slice (some ⟨g, 0, none⟩) n cap) (cvLs cs')) → Calls Tryz.prog 146 #[.slice (some ⟨g, 0, none⟩) n cap, .int .i64 (a' : Int), .int .i64 (m' : Int), .int .i64 (b' : Int), .func (.func 49) #[] #[]] w' fun e w'' => e = .returned (.tuple #[]) ∧ SortC base g n cap cs' w' w''))
    (w : World) (hh : Hid (OwnK 7 58 w base (.slice (some ⟨g, 0, none⟩) n cap) (cvLs cs))) :
    Calls Tryz.prog 146 #[.slice (some ⟨g, 0, none⟩) n cap, .int .i64 (a : Int), .int .i64 (m : Int), .int .i64 (b : Int), .func (.func 49) #[] #[]] w fun e w' => e = .returned (.tuple #[]) ∧ SortC base g n cap cs w w' := by
  have HST : Hid (SortC base g n cap cs w w) := SortC.refl hh.out
  have hnl : n = cs.length := by rw [← cvLs_len]; exact hh.out.len_eq
  obtain ⟨w0, rfl⟩ : ∃ x : World, x = w := ⟨_, rfl⟩
  obtain ⟨cs0, hcs0⟩ : ∃ x : List CV, x = cs := ⟨_, rfl⟩
  rw [← hcs0] at HST ⊢
  have hlen0 : cs0.length = n := by rw [hcs0]; exact hnl.symm
  clear hcs0 hnl hh cs
  have d1 : ((m : Int) - (a : Int) == 1) = false := by simp; omega
  have d2 : ((b : Int) - (m : Int) == 1) = false := by simp; omega
  obtain ⟨mid, hmid, hmd1, hmd2⟩ : ∃ h : Nat, (((a : Int) + (b : Int)) / 2 = (h : Int)) ∧ h + h ≤ a + b ∧ a + b ≤ h + h + 1 := ⟨(a + b) / 2, by omega, by omega, by omega⟩
  go_enter Tryz.func146, Tryz.ntmps146
  go_upto_if 140 with (fail)
  clear hmid d1 d2
  go_cut [20, 21] (fun v20 v21 wx => ∃ i j : Nat, v20 = .int .i64 i ∧ v21 = .int .i64 j ∧ a ≤ i ∧ mid + m ≤ i + b ∧ i ≤ j ∧ j ≤ m ∧ j ≤ mid ∧ Hid (SortC base g n cap cs0 w0 wx))
  case first =>
   as_aux_lemma =>
    by_cases hmm : mid < m
    · have hmI : (mid : Int) < (m : Int) := by omega
      go_wp2_with fail
      go_meet
      exact ⟨mid + m - b, mid, by congr 1; omega, rfl, by omega, by omega, by omega, by omega, by omega, HST⟩
    · have hmI : ¬ (mid : Int) < (m : Int) := by omega
      go_wp2_with fail
      go_meet
      exact ⟨a, m, rfl, rfl, by omega, by omega, by omega, by omega, by omega, HST⟩
  case rest =>
  obtain ⟨i0, j0, rfl, rfl, hi01, hi02, hij0, hjm0, hjd0, HS0⟩ := hcut
  go_wp2_with fail
  go_loopg [20, 21] (j0 - i0) (fun gh v10 v11 wr => ∃ i j : Nat, v10 = .int .i64 i ∧ v11 = .int .i64 j ∧ a ≤ i ∧ mid + m ≤ i + b ∧ i ≤ j ∧ j ≤ m ∧ j ≤ mid ∧ j ≤ i + gh ∧ Hid (SortC base g n cap cs0 w0 wr))
  case atStart => exact ⟨i0, j0, rfl, rfl, hi01, hi02, hij0, hjm0, hjd0, by omega, HS0⟩
  case round =>
    obtain ⟨i, j, rfl, rfl, hi1, hi2, hij, hjm, hjd, hg9, HS⟩ := hrel
    by_cases hlt : i < j
    · as_aux_lemma =>
      have hltI : (i : Int) < (j : Int) := by omega
      obtain ⟨h, hh2, hah, hhb⟩ : ∃ h : Nat, (((i : Int) + (j : Int)) / 2 = (h : Int)) ∧ i ≤ h ∧ h < j := ⟨(i + j) / 2, by omega, by omega, by omega⟩
      obtain ⟨cs, hp0, ho0, ha0⟩ := HS.out
      have hlen : cs.length = n := by rw [hp0.length_eq]; exact hlen0
      have hp := Lib.hid hp0
      have ho := Lib.hid ho0
      have ha := Lib.hid ha0
      clear hp0 ho0 ha0 HS
      obtain ⟨pc, hpc, hpc2⟩ : ∃ pc : Nat, (mid : Int) + (m : Int) - 1 - (h : Int) = (pc : Int) ∧ pc < n := ⟨mid + m - 1 - h, by omega, by omega⟩
      have HPC : Hid (IntKind.i64.wrap ((mid : Int) + (m : Int) - 1 - (h : Int)) = (pc : Int)) := by show _ = _; rw [hpc]; exact IntWalk.i64_in _ (by omega)
      have h1 : (0 : Int) ≤ (h : Int) := by omega
      have h2 : (h : Int) < (n : Int) := by omega
      have h3 : (0 : Int) ≤ (pc : Int) := by omega
      have h4 : (pc : Int) < (n : Int) := by omega
      clear hpc
      go_upto_region 35 with (fail)
      clear hh2
      obtain ⟨⟨c, A1, n1, c1⟩, hx⟩ : ∃ p, cvOf cs (pc) = p := ⟨_, rfl⟩
      obtain ⟨⟨d, A2, n2, c2⟩, hy⟩ : ∃ p, cvOf cs (h) = p := ⟨_, rfl⟩
      refine wp_region_text 14 (fun x9 => (x9.cell? ⟨g, (pc) * 7, none⟩ = some (.string c.media) ∧ x9.cell? ⟨g, (pc) * 7 + 1, none⟩ = some (.int .i64 c.chan) ∧ x9.cell? ⟨g, (pc) * 7 + 2, none⟩ = some (.int .i64 c.from_) ∧ x9.cell? ⟨g, (pc) * 7 + 3, none⟩ = some (.int .i64 c.track) ∧ x9.cell? ⟨g, (pc) * 7 + 4, none⟩ = some (.int .i64 c.at_) ∧ x9.cell? ⟨g, (pc) * 7 + 5, none⟩ = some (.int .i64 c.len) ∧ x9.cell? ⟨g, (pc) * 7 + 6, none⟩ = some (.slice A1 n1 c1)) ∧ x9.cell? ⟨g, (h) * 7, none⟩ = some (.string d.media) ∧ x9.cell? ⟨g, (h) * 7 + 1, none⟩ = some (.int .i64 d.chan) ∧ x9.cell? ⟨g, (h) * 7 + 2, none⟩ = some (.int .i64 d.from_) ∧ x9.cell? ⟨g, (h) * 7 + 3, none⟩ = some (.int .i64 d.track) ∧ x9.cell? ⟨g, (h) * 7 + 4, none⟩ = some (.int .i64 d.at_) ∧ x9.cell? ⟨g, (h) * 7 + 5, none⟩ = some (.int .i64 d.len) ∧ x9.cell? ⟨g, (h) * 7 + 6, none⟩ = some (.slice A2 n2 c2)) (by kernel_rfl) (by kernel_rfl) ?_
      obtain ⟨Y, hY⟩ : ∃ Y, Y = wr.drew := ⟨_, rfl⟩
      have HOY : Hid (OwnK 7 58 Y base (.slice (some ⟨g, 0, none⟩) n cap) (cvLs cs)) := by show OwnK _ _ _ _ _ _; rw [hY]; exact ho.out.below (Below.refl _ _).drew
      have HAY : Hid (Alt g (g + 1) w0 Y) := by show Alt _ _ _ _; rw [hY]; exact ha.out.trans (Alt.of_below (Below.refl _ _).drew)
      rw [← hY]
      clear hY
      have hS := And.intro (row_cells (I := pc) (by omega) hx HOY.out).1 (row_cells (I := h) (by omega) hy HOY.out).1
      have HX := Lib.hid hx
      have HY := Lib.hid hy
      clear hx hy
      refine HT.take (i := 0) (oi := _) (v := ?_) rfl (by kernel_rfl) (by kernel_rfl) (by decide) (fun _ _ _ h => h) (Or.inl ⟨by rfl, ?_⟩) hS ?_
      rotate_left
      · intro wz
        go_simp
        try with_reducible rfl
      simp only [zA, zB, zC, Act.put, zD, zE, zF]
      refine HT.take (i := 1) (oi := _) (v := ?_) rfl (by kernel_rfl) (by kernel_rfl) (by decide) (fun _ _ _ h => h) (Or.inl ⟨by rfl, ?_⟩) hS ?_
      rotate_left
      · intro wz
        go_simp
        try with_reducible rfl
      simp only [zA, zB, zC, Act.put, zD, zE, zF]
      refine HT.take (i := 2) (oi := _) (v := ?_) rfl (by kernel_rfl) (by kernel_rfl) (by decide) (fun _ _ _ h => h) (Or.inl ⟨by rfl, ?_⟩) hS ?_
      rotate_left
      · intro wz
        go_simp
        try with_reducible rfl
      simp only [zA, zB, zC, Act.put, zD, zE, zF]
      refine HT.take (i := 3) (oi := _) (v := ?_) rfl (by kernel_rfl) (by kernel_rfl) (by decide) (fun _ _ _ h => h) (Or.inl ⟨by rfl, ?_⟩) hS ?_
      rotate_left
      · intro wz
        go_simp
        try with_reducible rfl
      simp only [zA, zB, zC, Act.put, zD, zE, zF]
      refine HT.take (i := 4) (oi := _) (v := ?_) rfl (by kernel_rfl) (by kernel_rfl) (by decide) (fun _ _ _ h => h) (Or.inl ⟨by rfl, ?_⟩) hS ?_
      rotate_left
      · intro wz
        go_simp
        try with_reducible rfl
      simp only [zA, zB, zC, Act.put, zD, zE, zF]
      rw [HPC.out]
      refine HT.take (i := 5) (oi := _) (v := ?_) rfl (by kernel_rfl) (by kernel_rfl) (by decide) (fun _ _ _ h => h) (Or.inl ⟨by rfl, ?_⟩) hS ?_
      rotate_left
      · intro wz
        go_simp
        try with_reducible rfl
      simp only [zA, zB, zC, Act.put, zD, zE, zF]
      refine HT.load (i := 6) (oi := _) (v := ?_) rfl (by kernel_rfl) (by kernel_rfl) (by decide) (fun _ _ _ h => h) (by kernel_rfl) (Or.inl ⟨by rfl, ?_⟩) hS ?_
      rotate_left
      · intro wz hwz
        try dsimp only at hwz
        go_simp
        try with_reducible rfl
      simp only [zA, zB, zC, Act.put, zD, zE, zF]
      refine HT.take (i := 7) (oi := _) (v := ?_) rfl (by kernel_rfl) (by kernel_rfl) (by decide) (fun _ _ _ h => h) (Or.inl ⟨by rfl, ?_⟩) hS ?_
      rotate_left
      · intro wz
        go_simp
        try with_reducible rfl
      simp only [zA, zB, zC, Act.put, zD, zE, zF]
      refine HT.take (i := 8) (oi := _) (v := ?_) rfl (by kernel_rfl) (by kernel_rfl) (by decide) (fun _ _ _ h => h) (Or.inl ⟨by rfl, ?_⟩) hS ?_
      rotate_left
      · intro wz
        go_simp
        try with_reducible rfl
      simp only [zA, zB, zC, Act.put, zD, zE, zF]
      refine HT.take (i := 9) (oi := _) (v := ?_) rfl (by kernel_rfl) (by kernel_rfl) (by decide) (fun _ _ _ h => h) (Or.inl ⟨by rfl, ?_⟩) hS ?_
      rotate_left
      · intro wz
        go_simp
        try with_reducible rfl
      simp only [zA, zB, zC, Act.put, zD, zE, zF]
      refine HT.load (i := 10) (oi := _) (v := ?_) rfl (by kernel_rfl) (by kernel_rfl) (by decide) (fun _ _ _ h => h) (by kernel_rfl) (Or.inl ⟨by rfl, ?_⟩) hS ?_
      rotate_left
      · intro wz hwz
        try dsimp only at hwz
        go_simp
        try with_reducible rfl
      simp only [zA, zB, zC, Act.put, zD, zE, zF]
      refine HT.one (i := 11) (o := _) rfl (by kernel_rfl) (by decide) (by rfl) ?_
      intro K hK
      go_simp
      refine (ECOMPARE_any c d (.slice A1 n1 c1) (.slice A2 n2 c2) Y).mono ?_
      rintro e w8 ⟨rfl, hb8⟩
      have HO8 := Lib.hid (HOY.out.below hb8)
      have HA8 : Hid (Alt g (g + 1) w0 w8) := HAY.out.trans (Alt.of_below hb8)
      clear hb8
      have hS8 := And.intro (row_cells (I := pc) (by omega) HX.out HO8.out).1 (row_cells (I := h) (by omega) HY.out HO8.out).1
      refine hK.out _ _ hS8 ?_
      clear hK K hS HOY HAY
      obtain ⟨q, hq⟩ : ∃ q, cmpC c d = q := ⟨_, rfl⟩
      rw [hq]
      clear hq
      try simp only [zA, zB, zC, Act.put, zD, zE, zF]
      have hS := hS8
      clear hS8
      by_cases hq0 : q < 0
      ·
        have hqd : decide (q < 0) = true := decide_eq_true hq0
        refine HT.take (i := 12) (oi := _) (v := ?_) rfl (by kernel_rfl) (by kernel_rfl) (by decide) (fun _ _ _ h => h) (Or.inl ⟨by rfl, ?_⟩) hS ?_
        rotate_left
        · intro wz
          go_simp
          try with_reducible rfl
        simp only [zA, zB, zC, Act.put, zD, zE, zF]
        refine HT.take (i := 13) (oi := _) (v := ?_) rfl (by kernel_rfl) (by kernel_rfl) (by decide) (fun _ _ _ h => h) (Or.inl ⟨by rfl, ?_⟩) hS ?_
        rotate_left
        · intro wz
          go_simp
          try with_reducible rfl
        simp only [zA, zB, zC, Act.put, zD, zE, zF]
        refine HT.done (by kernel_rfl) ?_
        clear hS
        simp only [List.drop_succ_cons, List.drop_zero]
        clear hqd
        have HS8 : Hid (SortC base g n cap cs0 w0 w8) := ⟨cs, hp.out, HO8.out, HA8.out⟩
        go_wp2_with fail
        go_roundg (j - i - 1)
        case measure => omega
        case rel => exact ⟨i, h, rfl, rfl, by omega, by omega, by omega, by omega, by omega, by omega, HS8⟩
      ·
        have hqd : decide (q < 0) = false := decide_eq_false hq0
        refine HT.take (i := 12) (oi := _) (v := ?_) rfl (by kernel_rfl) (by kernel_rfl) (by decide) (fun _ _ _ h => h) (Or.inl ⟨by rfl, ?_⟩) hS ?_
        rotate_left
        · intro wz
          go_simp
          try with_reducible rfl
        simp only [zA, zB, zC, Act.put, zD, zE, zF]
        refine HT.take (i := 13) (oi := _) (v := ?_) rfl (by kernel_rfl) (by kernel_rfl) (by decide) (fun _ _ _ h => h) (Or.inl ⟨by rfl, ?_⟩) hS ?_
        rotate_left
        · intro wz
          go_simp
          try with_reducible rfl
        simp only [zA, zB, zC, Act.put, zD, zE, zF]
        refine HT.done (by kernel_rfl) ?_
        clear hS
        simp only [List.drop_succ_cons, List.drop_zero]
        clear hqd
        have HS8 : Hid (SortC base g n cap cs0 w0 w8) := ⟨cs, hp.out, HO8.out, HA8.out⟩
        go_wp2_with fail
        go_roundg (j - (h + 1))
        case measure => omega
        case rel => exact ⟨h + 1, j, by go_num, rfl, by omega, by omega, by omega, by omega, by omega, by omega, HS8⟩
    · as_aux_lemma =>
      obtain rfl : i = j := by omega
      obtain ⟨en, hen, hen2, hen3⟩ : ∃ en : Nat, (mid : Int) + (m : Int) - (i : Int) = (en : Int) ∧ en ≤ b ∧ mid ≤ en := ⟨mid + m - i, by omega, by omega, by omega⟩
      obtain ⟨bb, hbb⟩ : ∃ bb, (decide (i < m) && decide (m < en)) = bb := ⟨_, rfl⟩
      have HBB := Lib.hid hbb
      clear hbb
      go_upto_region 39 with (fail)
      go_cut [185] (fun v wx => v = .bool bb ∧ Hid (SortC base g n cap cs0 w0 wx))
      case first =>
       as_aux_lemma =>
        by_cases h9 : i < m
        · have hi9 : (i : Int) < (m : Int) := by omega
          by_cases h8 : m < en
          · have hi8 : (m : Int) < (en : Int) := by omega
            obtain rfl : bb = true := by rw [← HBB.out, decide_eq_true h9, decide_eq_true h8]; rfl
            go_wp2_with fail
            go_meet
            exact ⟨rfl, HS⟩
          · have hi8 : ¬ (m : Int) < (en : Int) := by omega
            obtain rfl : bb = false := by rw [← HBB.out, decide_eq_false h8, Bool.and_false]
            go_wp2_with fail
            go_meet
            exact ⟨rfl, HS⟩
        · have hi9 : ¬ (i : Int) < (m : Int) := by omega
          obtain rfl : bb = false := by rw [← HBB.out, decide_eq_false h9, Bool.false_and]
          go_wp2_with fail
          go_meet
          exact ⟨rfl, HS⟩
      case rest =>
      obtain ⟨rfl, HSa⟩ := hcut
      go_upto_if 185 with (fail)
      go_cut [] (fun wx => Hid (SortC base g n cap cs0 w0 wx) ∧ True)
      case first =>
       as_aux_lemma =>
        cases bb with
        | true =>
          have hxy := HBB.out
          simp only [Bool.and_eq_true, decide_eq_true_eq] at hxy
          obtain ⟨hx1, hx2⟩ := hxy
          obtain ⟨cs, hp0, ho0, ha0⟩ := HSa.out
          have hp := Lib.hid hp0
          have ho := Lib.hid ho0
          have ha := Lib.hid ha0
          clear hp0 ho0 ha0
          go_wp2_with fail
          refine ((ROTATEC_any base g n cap i m en _ cs (by omega) (by omega) (by omega) hn _ ho)).mono ?_
          rintro e w1 ⟨rfl, hs1⟩
          have HS1 : Hid (SortC base g n cap cs0 w0 w1) := SortC.trans hp.out ha.out hs1
          clear hs1
          go_wp2_with fail
          go_meet
          exact ⟨HS1, trivial⟩
        | false =>
          go_wp2_with fail
          go_meet
          exact ⟨HSa, trivial⟩
      case rest =>
      clear HBB HSa
      clear hen HS
      obtain ⟨HS, _⟩ := hcut
      as_aux_lemma =>
      obtain ⟨bb, hbb⟩ : ∃ bb, (decide (a < i) && decide (i < mid)) = bb := ⟨_, rfl⟩
      have HBB := Lib.hid hbb
      clear hbb
      go_upto_region 41 with (fail)
      go_cut [199] (fun v wx => v = .bool bb ∧ Hid (SortC base g n cap cs0 w0 wx))
      case first =>
       as_aux_lemma =>
        by_cases h9 : a < i
        · have hi9 : (a : Int) < (i : Int) := by omega
          by_cases h8 : i < mid
          · have hi8 : (i : Int) < (mid : Int) := by omega
            obtain rfl : bb = true := by rw [← HBB.out, decide_eq_true h9, decide_eq_true h8]; rfl
            go_wp2_with fail
            go_meet
            exact ⟨rfl, HS⟩
          · have hi8 : ¬ (i : Int) < (mid : Int) := by omega
            obtain rfl : bb = false := by rw [← HBB.out, decide_eq_false h8, Bool.and_false]
            go_wp2_with fail
            go_meet
            exact ⟨rfl, HS⟩
        · have hi9 : ¬ (a : Int) < (i : Int) := by omega
          obtain rfl : bb = false := by rw [← HBB.out, decide_eq_false h9, Bool.false_and]
          go_wp2_with fail
          go_meet
          exact ⟨rfl, HS⟩
      case rest =>
      obtain ⟨rfl, HSa⟩ := hcut
      go_upto_if 199 with (fail)
      go_cut [] (fun wx => Hid (SortC base g n cap cs0 w0 wx) ∧ True)
      case first =>
       as_aux_lemma =>
        cases bb with
        | true =>
          have hxy := HBB.out
          simp only [Bool.and_eq_true, decide_eq_true_eq] at hxy
          obtain ⟨hx1, hx2⟩ := hxy
          obtain ⟨cs, hp0, ho0, ha0⟩ := HSa.out
          have hp := Lib.hid hp0
          have ho := Lib.hid ho0
          have ha := Lib.hid ha0
          clear hp0 ho0 ha0
          go_wp2_with fail
          refine ((IH.out a i mid cs _ (by omega) (by omega) (by omega) (by omega) ho)).mono ?_
          rintro e w1 ⟨rfl, hs1⟩
          have HS1 : Hid (SortC base g n cap cs0 w0 w1) := SortC.trans hp.out ha.out hs1
          clear hs1
          go_wp2_with fail
          go_meet
          exact ⟨HS1, trivial⟩
        | false =>
          go_wp2_with fail
          go_meet
          exact ⟨HSa, trivial⟩
      case rest =>
      clear HBB HSa
      clear HS
      obtain ⟨HS, _⟩ := hcut
      as_aux_lemma =>
      by_cases h9 : mid < en ∧ en < b
      · obtain ⟨h8, h7⟩ := h9
        have hi8 : (mid : Int) < (en : Int) := by omega
        have hi7 : (en : Int) < (b : Int) := by omega
        obtain ⟨cs, hp0, ho0, ha0⟩ := HS.out
        have hp := Lib.hid hp0
        have ho := Lib.hid ho0
        have ha := Lib.hid ha0
        clear hp0 ho0 ha0 HS
        go_wp2_with fail
        refine (IH.out mid en b cs _ (by omega) (by omega) (by omega) (by omega) ho).mono ?_
        rintro e w1 ⟨rfl, hs1⟩
        have HS1 : Hid (SortC base g n cap cs0 w0 w1) := SortC.trans hp.out ha.out hs1
        clear hs1
        go_wp2_with fail
        refine bodyPost_end (v := .tuple #[]) (by simp [results, Tryz.results146, go_sem]) rfl ?_
        exact ⟨rfl, HS1.out⟩
      · by_cases h8 : mid < en
        · have hi8 : (mid : Int) < (en : Int) := by omega
          have hi7 : ¬ (en : Int) < (b : Int) := by omega
          clear h9
          go_wp2_with fail
          refine bodyPost_end (v := .tuple #[]) (by simp [results, Tryz.results146, go_sem]) rfl ?_
          exact ⟨rfl, HS.out⟩
        · have hi8 : ¬ (mid : Int) < (en : Int) := by omega
          clear h9
          go_wp2_with fail
          refine bodyPost_end (v := .tuple #[]) (by simp [results, Tryz.results146, go_sem]) rfl ?_
          exact ⟨rfl, HS.out⟩
theorem SYMMC_any (base g n cap : Nat) (hn : n ≤ 1000000) : ∀ (N a m b : Nat) (cs : List CV) (w : World), b - a ≤ N → a < m → m < b → b ≤ n → Hid (OwnK 7 58 w base (.slice (some ⟨g, 0, none⟩) n cap) (cvLs cs)) →
    Calls Tryz.prog 146 #[.slice (some ⟨g, 0, none⟩) n cap, .int .i64 (a : Int), .int .i64 (m : Int), .int .i64 (b : Int), .func (.func 49) #[] #[]] w fun e w' => e = .returned (.tuple #[]) ∧ SortC base g n cap cs w w'
  | 0, a, m, b, cs, w, h0, h1, h2, h3, hh => by omega
  | N + 1, a, m, b, cs, w, h0, h1, h2, h3, hh => by
    by_cases c1 : m ≤ a + 1
    · exact SYMMC_one base g n cap a m b cs c1 (by omega) h2 h3 hn w hh
    · by_cases c2 : b ≤ m + 1
      · exact SYMMC_two base g n cap a m b cs (by omega) c2 (by omega) h3 hn w hh
      · exact SYMMC_gen base g n cap a m b cs (by omega) (by omega) h3 hn (Lib.hid (fun a' m' b' cs' w' k1 k2 k3 k4 hh' => SYMMC_any base g n cap hn N a' m' b' cs' w' (by omega) k1 k2 k3 hh')) w hh
end Go.Proofs.YtkmcohnhanphdaaGreatDoor
