/- The document's Show. -/
import Derived.Test.YthgjgiccoobcgaaGreatDoorTxw
set_option linter.unusedSimpArgs false
set_option linter.unusedVariables false
namespace Go.Proofs.YthgjgiccoobcgaaGreatDoor
open Go.RowKit Go.Dw Go.Joins
set_option maxRecDepth 100000 in
set_option maxHeartbeats 2000000 in
theorem RSHOW_any (n rate : Int) (w : World) (ht : Hid (TabAt w)) :
    Calls Tryz.prog 9 #[.int .i64 n, .int .i64 rate] w fun e w' => ∃ z : ByteArray, e = .returned (.tuple #[.string z, .int .i64 (showS n rate).2]) ∧ z.data.toList = (showS n rate).1 ∧ Below w.heap.size w w' := by
  cases hp : okPos n with
  | false =>
    have HV : Hid (showS n rate = ([], 1)) := if_pos (.inl hp)
    have HP : Hid ((decide (-10000000000000 ≤ n) && decide (n ≤ 10000000000000)) = false) := hp
    clear hp
    go_enter Tryz.func9, Tryz.ntmps9
    go_wp2_with (go_at_call 34; refine (RPOSITION_any _ _).mono ?_; rintro e w2 ⟨rfl, rfl⟩; rw [HP.out])
    refine bodyPost_ret (v := .tuple #[.string ⟨#[]⟩, .int .i64 1]) (by simp [results, Tryz.results9, go_sem]) rfl ?_
    rw [HV.out]
    exact ⟨_, rfl, rfl, Below.refl _ _⟩
  | true =>
    cases hr : okRate rate with
    | false =>
      have HV : Hid (showS n rate = ([], 1)) := if_pos (.inr hr)
      have HP : Hid ((decide (-10000000000000 ≤ n) && decide (n ≤ 10000000000000)) = true) := hp
      have HR : Hid ((decide (1 ≤ rate) && decide (rate ≤ 1000000)) = false) := hr
      clear hp hr
      go_enter Tryz.func9, Tryz.ntmps9
      go_wp2_with (first
        | (go_at_call 34; refine (RPOSITION_any _ _).mono ?_; rintro e w2 ⟨rfl, rfl⟩; rw [HP.out])
        | (go_at_call 35; refine (RISRATE_any _ _).mono ?_; rintro e w2 ⟨rfl, rfl⟩; rw [HR.out]))
      refine bodyPost_ret (v := .tuple #[.string ⟨#[]⟩, .int .i64 1]) (by simp [results, Tryz.results9, go_sem]) rfl ?_
      rw [HV.out]
      exact ⟨_, rfl, rfl, Below.refl _ _⟩
    | true =>
      have HV : Hid (showS n rate = (showTxt n rate.toNat, 0)) := by show _ = _; unfold showS; rw [if_neg (by rw [hp, hr]; simp)]
      have HP : Hid ((decide (-10000000000000 ≤ n) && decide (n ≤ 10000000000000)) = true) := hp
      have HR : Hid ((decide (1 ≤ rate) && decide (rate ≤ 1000000)) = true) := hr
      obtain ⟨p1, p2⟩ := okPos_le hp
      obtain ⟨r1, r2⟩ := okRate_le hr
      clear hp hr
      obtain ⟨r, rfl⟩ : ∃ r : Nat, rate = (r : Int) := ⟨rate.toNat, by omega⟩
      rw [Int.toNat_natCast] at HV
      have HTB := ht
      go_enter Tryz.func9, Tryz.ntmps9
      go_upto_region 4 with (first
        | (go_at_call 34; refine (RPOSITION_any _ _).mono ?_; rintro e w2 ⟨rfl, rfl⟩; rw [HP.out])
        | (go_at_call 35; refine (RISRATE_any _ _).mono ?_; rintro e w2 ⟨rfl, rfl⟩; rw [HR.out]))
      clear HP HR ht
      by_cases hneg : n < 0
      · obtain ⟨u, rfl⟩ : ∃ u : Nat, n = -(u : Int) := ⟨n.natAbs, by omega⟩
        have HNA : Hid ((-(u : Int)).natAbs = u) := by show _ = _; omega
        have hu : (u : Int) ≤ 10000000000000 := by omega
        obtain ⟨q, hq⟩ : ∃ q : Nat, u / r = q := ⟨_, rfl⟩
        obtain ⟨m, hm⟩ : ∃ m : Nat, u % r = m := ⟨_, rfl⟩
        have HQ := Lib.hid hq
        have HM := Lib.hid hm
        have kq : (u : Int) / (r : Int) = (q : Int) := by rw [← hq]; exact (Int.natCast_ediv u r).symm
        have km : (u : Int) % (r : Int) = (m : Int) := by rw [← hm]; exact (Int.natCast_emod u r).symm
        have hq2 : (q : Int) ≤ 10000000000000 := by have := Nat.div_le_self u r; omega
        have hm2 : (m : Int) ≤ 1000000 := by have := Nat.mod_lt u (show 0 < r by omega); omega
        have kw1 : IntKind.i64.wrap ((q : Int) / 3600) = (q : Int) / 3600 := IntWalk.i64_in _ (by omega)
        have kw2 : IntKind.i64.wrap ((q : Int) / 60) = (q : Int) / 60 := IntWalk.i64_in _ (by omega)
        have kw3 : ((q : Int) / 60).tmod 60 = (q : Int) / 60 % 60 := Int.tmod_eq_emod_of_nonneg (by omega)
        have kw4 : (q : Int).tmod 60 = (q : Int) % 60 := Int.tmod_eq_emod_of_nonneg (by omega)
        have kw5 : (u : Int).tmod (r : Int) = (m : Int) := by rw [Int.tmod_eq_emod_of_nonneg (by omega)]; exact km
        have hrne : r ≠ 0 := by omega
        clear hq hm
        go_upto_region 7 with (fail)
        refine wp_region_text 22 (fun _ => True) (by kernel_rfl) (by kernel_rfl) ?_
        obtain ⟨wc, hwc⟩ : ∃ x : World, x = w.drew := ⟨_, rfl⟩
        have hbn : Below w.heap.size w w.drew := (Below.refl _ _).drew
        replace HTB := Lib.hid (HTB.out.below hbn)
        have HBc : Hid (Below w.heap.size w wc) := by show Below _ _ _; rw [hwc]; exact hbn
        have hS : True := trivial
        rw [← hwc] at HTB
        rw [← hwc]
        clear hwc hbn
        refine HT.take (i := 0) (oi := _) (v := ?_) rfl (by kernel_rfl) (by kernel_rfl) (by decide) (fun _ _ _ h => h) (Or.inl ⟨by rfl, ?_⟩) hS ?_
        rotate_left
        · intro wz
          go_simp
          try with_reducible rfl
        simp only [List.getElem_toArray, List.getElem_cons_succ, List.getElem_cons_zero, Act.put, List.setIfInBounds_toArray, List.set_cons_zero, List.set_cons_succ]
        refine HT.take (i := 1) (oi := _) (v := ?_) rfl (by kernel_rfl) (by kernel_rfl) (by decide) (fun _ _ _ h => h) (Or.inl ⟨by rfl, ?_⟩) hS ?_
        rotate_left
        · intro wz
          go_simp
          try with_reducible rfl
        simp only [List.getElem_toArray, List.getElem_cons_succ, List.getElem_cons_zero, Act.put, List.setIfInBounds_toArray, List.set_cons_zero, List.set_cons_succ]
        refine HT.take (i := 2) (oi := _) (v := ?_) rfl (by kernel_rfl) (by kernel_rfl) (by decide) (fun _ _ _ h => h) (Or.inl ⟨by rfl, ?_⟩) hS ?_
        rotate_left
        · intro wz
          go_simp
          try with_reducible rfl
        simp only [List.getElem_toArray, List.getElem_cons_succ, List.getElem_cons_zero, Act.put, List.setIfInBounds_toArray, List.set_cons_zero, List.set_cons_succ]
        refine HT.take (i := 6) (oi := _) (v := ?_) rfl (by kernel_rfl) (by kernel_rfl) (by decide) (fun _ _ _ h => h) (Or.inl ⟨by rfl, ?_⟩) hS ?_
        rotate_left
        · intro wz
          go_simp
          try with_reducible rfl
        simp only [List.getElem_toArray, List.getElem_cons_succ, List.getElem_cons_zero, Act.put, List.setIfInBounds_toArray, List.set_cons_zero, List.set_cons_succ]
        refine HT.take (i := 7) (oi := _) (v := ?_) rfl (by kernel_rfl) (by kernel_rfl) (by decide) (fun _ _ _ h => h) (Or.inl ⟨by rfl, ?_⟩) hS ?_
        rotate_left
        · intro wz
          go_simp
          try with_reducible rfl
        simp only [List.getElem_toArray, List.getElem_cons_succ, List.getElem_cons_zero, Act.put, List.setIfInBounds_toArray, List.set_cons_zero, List.set_cons_succ]
        refine HT.take (i := 8) (oi := _) (v := ?_) rfl (by kernel_rfl) (by kernel_rfl) (by decide) (fun _ _ _ h => h) (Or.inl ⟨by rfl, ?_⟩) hS ?_
        rotate_left
        · intro wz
          go_simp
          try with_reducible rfl
        simp only [List.getElem_toArray, List.getElem_cons_succ, List.getElem_cons_zero, Act.put, List.setIfInBounds_toArray, List.set_cons_zero, List.set_cons_succ]
        refine HT.take (i := 12) (oi := _) (v := ?_) rfl (by kernel_rfl) (by kernel_rfl) (by decide) (fun _ _ _ h => h) (Or.inl ⟨by rfl, ?_⟩) hS ?_
        rotate_left
        · intro wz
          go_simp
          try with_reducible rfl
        simp only [List.getElem_toArray, List.getElem_cons_succ, List.getElem_cons_zero, Act.put, List.setIfInBounds_toArray, List.set_cons_zero, List.set_cons_succ]
        refine HT.take (i := 13) (oi := _) (v := ?_) rfl (by kernel_rfl) (by kernel_rfl) (by decide) (fun _ _ _ h => h) (Or.inl ⟨by rfl, ?_⟩) hS ?_
        rotate_left
        · intro wz
          go_simp
          try with_reducible rfl
        simp only [List.getElem_toArray, List.getElem_cons_succ, List.getElem_cons_zero, Act.put, List.setIfInBounds_toArray, List.set_cons_zero, List.set_cons_succ]
        refine HT.take (i := 17) (oi := _) (v := ?_) rfl (by kernel_rfl) (by kernel_rfl) (by decide) (fun _ _ _ h => h) (Or.inl ⟨by rfl, ?_⟩) hS ?_
        rotate_left
        · intro wz
          go_simp
          try with_reducible rfl
        simp only [List.getElem_toArray, List.getElem_cons_succ, List.getElem_cons_zero, Act.put, List.setIfInBounds_toArray, List.set_cons_zero, List.set_cons_succ]
        refine HT.take (i := 18) (oi := _) (v := ?_) rfl (by kernel_rfl) (by kernel_rfl) (by decide) (fun _ _ _ h => h) (Or.inl ⟨by rfl, ?_⟩) hS ?_
        rotate_left
        · intro wz
          go_simp
          try with_reducible rfl
        simp only [List.getElem_toArray, List.getElem_cons_succ, List.getElem_cons_zero, Act.put, List.setIfInBounds_toArray, List.set_cons_zero, List.set_cons_succ]
        refine HT.take (i := 19) (oi := _) (v := ?_) rfl (by kernel_rfl) (by kernel_rfl) (by decide) (fun _ _ _ h => h) (Or.inl ⟨by rfl, ?_⟩) hS ?_
        rotate_left
        · intro wz
          go_simp
          try with_reducible rfl
        simp only [List.getElem_toArray, List.getElem_cons_succ, List.getElem_cons_zero, Act.put, List.setIfInBounds_toArray, List.set_cons_zero, List.set_cons_succ]
        refine HT.one (i := 3) (o := _) rfl (by kernel_rfl) (by decide) (by rfl) ?_
        intro K hK
        go_simp
        refine (ITOAZ_any _ (by omega) (by omega) _ HTB).mono ?_
        rintro e9 wn ⟨z1, rfl, hz1, HZ1, hbn⟩
        replace HTB := Lib.hid (HTB.out.below hbn)
        have HBn := Lib.hid (HBc.out.trans (hbn.mono HBc.out.size))
        refine hK.out _ _ trivial ?_
        clear hK K
        try simp only [List.getElem_toArray, List.getElem_cons_succ, List.getElem_cons_zero, Act.put, List.setIfInBounds_toArray, List.set_cons_zero, List.set_cons_succ]
        have HBc := HBn
        clear HBn hbn
        obtain ⟨wc, rfl⟩ : ∃ x : World, x = wn := ⟨_, rfl⟩
        refine HT.take (i := 4) (oi := _) (v := .string ((⟨#[45]⟩ : ByteArray) ++ z1)) rfl (by kernel_rfl) (by kernel_rfl) (by decide) (fun _ _ _ h => h) (Or.inl ⟨by rfl, ?_⟩) hS ?_
        · intro wz
          go_simp
          first | rfl | omega | (rw [if_neg (by omega)])
        simp only [List.getElem_toArray, List.getElem_cons_succ, List.getElem_cons_zero, Act.put, List.setIfInBounds_toArray, List.set_cons_zero, List.set_cons_succ]
        refine HT.take (i := 5) (oi := _) (v := .string ((⟨#[45]⟩ : ByteArray) ++ z1 ++ ⟨#[58]⟩)) rfl (by kernel_rfl) (by kernel_rfl) (by decide) (fun _ _ _ h => h) (Or.inl ⟨by rfl, ?_⟩) hS ?_
        · intro wz
          go_simp
          first | rfl | omega | (rw [if_neg (by omega)])
        simp only [List.getElem_toArray, List.getElem_cons_succ, List.getElem_cons_zero, Act.put, List.setIfInBounds_toArray, List.set_cons_zero, List.set_cons_succ]
        refine HT.one (i := 9) (o := _) rfl (by kernel_rfl) (by decide) (by rfl) ?_
        intro K hK
        go_simp
        refine (RTWO_any _ (by omega) (by omega) _ HTB).mono ?_
        rintro e9 wn ⟨z2, rfl, hz2, HZ2, hbn⟩
        replace HTB := Lib.hid (HTB.out.below hbn)
        have HBn := Lib.hid (HBc.out.trans (hbn.mono HBc.out.size))
        refine hK.out _ _ trivial ?_
        clear hK K
        try simp only [List.getElem_toArray, List.getElem_cons_succ, List.getElem_cons_zero, Act.put, List.setIfInBounds_toArray, List.set_cons_zero, List.set_cons_succ]
        have HBc := HBn
        clear HBn hbn
        obtain ⟨wc, rfl⟩ : ∃ x : World, x = wn := ⟨_, rfl⟩
        refine HT.take (i := 10) (oi := _) (v := .string ((⟨#[45]⟩ : ByteArray) ++ z1 ++ ⟨#[58]⟩ ++ z2)) rfl (by kernel_rfl) (by kernel_rfl) (by decide) (fun _ _ _ h => h) (Or.inl ⟨by rfl, ?_⟩) hS ?_
        · intro wz
          go_simp
          first | rfl | omega | (rw [if_neg (by omega)])
        simp only [List.getElem_toArray, List.getElem_cons_succ, List.getElem_cons_zero, Act.put, List.setIfInBounds_toArray, List.set_cons_zero, List.set_cons_succ]
        refine HT.take (i := 11) (oi := _) (v := .string ((⟨#[45]⟩ : ByteArray) ++ z1 ++ ⟨#[58]⟩ ++ z2 ++ ⟨#[58]⟩)) rfl (by kernel_rfl) (by kernel_rfl) (by decide) (fun _ _ _ h => h) (Or.inl ⟨by rfl, ?_⟩) hS ?_
        · intro wz
          go_simp
          first | rfl | omega | (rw [if_neg (by omega)])
        simp only [List.getElem_toArray, List.getElem_cons_succ, List.getElem_cons_zero, Act.put, List.setIfInBounds_toArray, List.set_cons_zero, List.set_cons_succ]
        refine HT.one (i := 14) (o := _) rfl (by kernel_rfl) (by decide) (by rfl) ?_
        intro K hK
        go_simp
        refine (RTWO_any _ (by omega) (by omega) _ HTB).mono ?_
        rintro e9 wn ⟨z3, rfl, hz3, HZ3, hbn⟩
        replace HTB := Lib.hid (HTB.out.below hbn)
        have HBn := Lib.hid (HBc.out.trans (hbn.mono HBc.out.size))
        refine hK.out _ _ trivial ?_
        clear hK K
        try simp only [List.getElem_toArray, List.getElem_cons_succ, List.getElem_cons_zero, Act.put, List.setIfInBounds_toArray, List.set_cons_zero, List.set_cons_succ]
        have HBc := HBn
        clear HBn hbn
        obtain ⟨wc, rfl⟩ : ∃ x : World, x = wn := ⟨_, rfl⟩
        refine HT.take (i := 15) (oi := _) (v := .string ((⟨#[45]⟩ : ByteArray) ++ z1 ++ ⟨#[58]⟩ ++ z2 ++ ⟨#[58]⟩ ++ z3)) rfl (by kernel_rfl) (by kernel_rfl) (by decide) (fun _ _ _ h => h) (Or.inl ⟨by rfl, ?_⟩) hS ?_
        · intro wz
          go_simp
          first | rfl | omega | (rw [if_neg (by omega)])
        simp only [List.getElem_toArray, List.getElem_cons_succ, List.getElem_cons_zero, Act.put, List.setIfInBounds_toArray, List.set_cons_zero, List.set_cons_succ]
        refine HT.take (i := 16) (oi := _) (v := .string ((⟨#[45]⟩ : ByteArray) ++ z1 ++ ⟨#[58]⟩ ++ z2 ++ ⟨#[58]⟩ ++ z3 ++ ⟨#[43]⟩)) rfl (by kernel_rfl) (by kernel_rfl) (by decide) (fun _ _ _ h => h) (Or.inl ⟨by rfl, ?_⟩) hS ?_
        · intro wz
          go_simp
          first | rfl | omega | (rw [if_neg (by omega)])
        simp only [List.getElem_toArray, List.getElem_cons_succ, List.getElem_cons_zero, Act.put, List.setIfInBounds_toArray, List.set_cons_zero, List.set_cons_succ]
        refine HT.one (i := 20) (o := _) rfl (by kernel_rfl) (by decide) (by rfl) ?_
        intro K hK
        go_simp
        refine (ITOAZ_any _ (by omega) (by omega) _ HTB).mono ?_
        rintro e9 wn ⟨z4, rfl, hz4, HZ4, hbn⟩
        replace HTB := Lib.hid (HTB.out.below hbn)
        have HBn := Lib.hid (HBc.out.trans (hbn.mono HBc.out.size))
        refine hK.out _ _ trivial ?_
        clear hK K
        try simp only [List.getElem_toArray, List.getElem_cons_succ, List.getElem_cons_zero, Act.put, List.setIfInBounds_toArray, List.set_cons_zero, List.set_cons_succ]
        have HBc := HBn
        clear HBn hbn
        obtain ⟨wc, rfl⟩ : ∃ x : World, x = wn := ⟨_, rfl⟩
        refine HT.take (i := 21) (oi := _) (v := .string ((⟨#[45]⟩ : ByteArray) ++ z1 ++ ⟨#[58]⟩ ++ z2 ++ ⟨#[58]⟩ ++ z3 ++ ⟨#[43]⟩ ++ z4)) rfl (by kernel_rfl) (by kernel_rfl) (by decide) (fun _ _ _ h => h) (Or.inl ⟨by rfl, ?_⟩) hS ?_
        · intro wz
          go_simp
          first | rfl | omega | (rw [if_neg (by omega)])
        simp only [List.getElem_toArray, List.getElem_cons_succ, List.getElem_cons_zero, Act.put, List.setIfInBounds_toArray, List.set_cons_zero, List.set_cons_succ]
        refine HT.done (by kernel_rfl) ?_
        clear hS
        simp only [List.drop_succ_cons, List.drop_zero]
        go_wp2_with fail
        refine bodyPost_ret (v := .tuple #[.string ((⟨#[45]⟩ : ByteArray) ++ z1 ++ ⟨#[58]⟩ ++ z2 ++ ⟨#[58]⟩ ++ z3 ++ ⟨#[43]⟩ ++ z4), .int .i64 0]) (by simp [results, Tryz.results9, go_sem]) rfl ?_
        rw [HV.out]
        refine ⟨_, rfl, ?_, HBc.out⟩
        have t1 : ((q : Int) / 3600).toNat = q / 3600 := by omega
        have t2 : ((q : Int) / 60 % 60).toNat = q / 60 % 60 := by omega
        have t3 : ((q : Int) % 60).toNat = q % 60 := by omega
        have g1 := HZ1.out
        have g2 := HZ2.out
        have g3 := HZ3.out
        have g4 := HZ4.out
        rw [t1] at g1
        rw [t2] at g2
        rw [t3] at g3
        rw [Int.toNat_natCast] at g4
        dsimp only
        unfold showTxt showL hmsL sgnL
        rw [HNA.out, HQ.out, HM.out, if_pos hneg]
        simp only [ByteArray.data_append, Array.toList_append, g1, g2, g3, g4]
        simp
      · obtain ⟨u, rfl⟩ : ∃ u : Nat, n = (u : Int) := ⟨n.natAbs, by omega⟩
        have HNA : Hid ((u : Int).natAbs = u) := by show _ = _; omega
        have hu : (u : Int) ≤ 10000000000000 := by omega
        obtain ⟨q, hq⟩ : ∃ q : Nat, u / r = q := ⟨_, rfl⟩
        obtain ⟨m, hm⟩ : ∃ m : Nat, u % r = m := ⟨_, rfl⟩
        have HQ := Lib.hid hq
        have HM := Lib.hid hm
        have kq : (u : Int) / (r : Int) = (q : Int) := by rw [← hq]; exact (Int.natCast_ediv u r).symm
        have km : (u : Int) % (r : Int) = (m : Int) := by rw [← hm]; exact (Int.natCast_emod u r).symm
        have hq2 : (q : Int) ≤ 10000000000000 := by have := Nat.div_le_self u r; omega
        have hm2 : (m : Int) ≤ 1000000 := by have := Nat.mod_lt u (show 0 < r by omega); omega
        have kw1 : IntKind.i64.wrap ((q : Int) / 3600) = (q : Int) / 3600 := IntWalk.i64_in _ (by omega)
        have kw2 : IntKind.i64.wrap ((q : Int) / 60) = (q : Int) / 60 := IntWalk.i64_in _ (by omega)
        have kw3 : ((q : Int) / 60).tmod 60 = (q : Int) / 60 % 60 := Int.tmod_eq_emod_of_nonneg (by omega)
        have kw4 : (q : Int).tmod 60 = (q : Int) % 60 := Int.tmod_eq_emod_of_nonneg (by omega)
        have kw5 : (u : Int).tmod (r : Int) = (m : Int) := by rw [Int.tmod_eq_emod_of_nonneg (by omega)]; exact km
        have hrne : r ≠ 0 := by omega
        clear hq hm
        go_upto_region 7 with (fail)
        refine wp_region_text 22 (fun _ => True) (by kernel_rfl) (by kernel_rfl) ?_
        obtain ⟨wc, hwc⟩ : ∃ x : World, x = w.drew := ⟨_, rfl⟩
        have hbn : Below w.heap.size w w.drew := (Below.refl _ _).drew
        replace HTB := Lib.hid (HTB.out.below hbn)
        have HBc : Hid (Below w.heap.size w wc) := by show Below _ _ _; rw [hwc]; exact hbn
        have hS : True := trivial
        rw [← hwc] at HTB
        rw [← hwc]
        clear hwc hbn
        refine HT.take (i := 0) (oi := _) (v := ?_) rfl (by kernel_rfl) (by kernel_rfl) (by decide) (fun _ _ _ h => h) (Or.inl ⟨by rfl, ?_⟩) hS ?_
        rotate_left
        · intro wz
          go_simp
          try with_reducible rfl
        simp only [List.getElem_toArray, List.getElem_cons_succ, List.getElem_cons_zero, Act.put, List.setIfInBounds_toArray, List.set_cons_zero, List.set_cons_succ]
        refine HT.take (i := 1) (oi := _) (v := ?_) rfl (by kernel_rfl) (by kernel_rfl) (by decide) (fun _ _ _ h => h) (Or.inl ⟨by rfl, ?_⟩) hS ?_
        rotate_left
        · intro wz
          go_simp
          try with_reducible rfl
        simp only [List.getElem_toArray, List.getElem_cons_succ, List.getElem_cons_zero, Act.put, List.setIfInBounds_toArray, List.set_cons_zero, List.set_cons_succ]
        refine HT.take (i := 2) (oi := _) (v := ?_) rfl (by kernel_rfl) (by kernel_rfl) (by decide) (fun _ _ _ h => h) (Or.inl ⟨by rfl, ?_⟩) hS ?_
        rotate_left
        · intro wz
          go_simp
          try with_reducible rfl
        simp only [List.getElem_toArray, List.getElem_cons_succ, List.getElem_cons_zero, Act.put, List.setIfInBounds_toArray, List.set_cons_zero, List.set_cons_succ]
        refine HT.take (i := 6) (oi := _) (v := ?_) rfl (by kernel_rfl) (by kernel_rfl) (by decide) (fun _ _ _ h => h) (Or.inl ⟨by rfl, ?_⟩) hS ?_
        rotate_left
        · intro wz
          go_simp
          try with_reducible rfl
        simp only [List.getElem_toArray, List.getElem_cons_succ, List.getElem_cons_zero, Act.put, List.setIfInBounds_toArray, List.set_cons_zero, List.set_cons_succ]
        refine HT.take (i := 7) (oi := _) (v := ?_) rfl (by kernel_rfl) (by kernel_rfl) (by decide) (fun _ _ _ h => h) (Or.inl ⟨by rfl, ?_⟩) hS ?_
        rotate_left
        · intro wz
          go_simp
          try with_reducible rfl
        simp only [List.getElem_toArray, List.getElem_cons_succ, List.getElem_cons_zero, Act.put, List.setIfInBounds_toArray, List.set_cons_zero, List.set_cons_succ]
        refine HT.take (i := 8) (oi := _) (v := ?_) rfl (by kernel_rfl) (by kernel_rfl) (by decide) (fun _ _ _ h => h) (Or.inl ⟨by rfl, ?_⟩) hS ?_
        rotate_left
        · intro wz
          go_simp
          try with_reducible rfl
        simp only [List.getElem_toArray, List.getElem_cons_succ, List.getElem_cons_zero, Act.put, List.setIfInBounds_toArray, List.set_cons_zero, List.set_cons_succ]
        refine HT.take (i := 12) (oi := _) (v := ?_) rfl (by kernel_rfl) (by kernel_rfl) (by decide) (fun _ _ _ h => h) (Or.inl ⟨by rfl, ?_⟩) hS ?_
        rotate_left
        · intro wz
          go_simp
          try with_reducible rfl
        simp only [List.getElem_toArray, List.getElem_cons_succ, List.getElem_cons_zero, Act.put, List.setIfInBounds_toArray, List.set_cons_zero, List.set_cons_succ]
        refine HT.take (i := 13) (oi := _) (v := ?_) rfl (by kernel_rfl) (by kernel_rfl) (by decide) (fun _ _ _ h => h) (Or.inl ⟨by rfl, ?_⟩) hS ?_
        rotate_left
        · intro wz
          go_simp
          try with_reducible rfl
        simp only [List.getElem_toArray, List.getElem_cons_succ, List.getElem_cons_zero, Act.put, List.setIfInBounds_toArray, List.set_cons_zero, List.set_cons_succ]
        refine HT.take (i := 17) (oi := _) (v := ?_) rfl (by kernel_rfl) (by kernel_rfl) (by decide) (fun _ _ _ h => h) (Or.inl ⟨by rfl, ?_⟩) hS ?_
        rotate_left
        · intro wz
          go_simp
          try with_reducible rfl
        simp only [List.getElem_toArray, List.getElem_cons_succ, List.getElem_cons_zero, Act.put, List.setIfInBounds_toArray, List.set_cons_zero, List.set_cons_succ]
        refine HT.take (i := 18) (oi := _) (v := ?_) rfl (by kernel_rfl) (by kernel_rfl) (by decide) (fun _ _ _ h => h) (Or.inl ⟨by rfl, ?_⟩) hS ?_
        rotate_left
        · intro wz
          go_simp
          try with_reducible rfl
        simp only [List.getElem_toArray, List.getElem_cons_succ, List.getElem_cons_zero, Act.put, List.setIfInBounds_toArray, List.set_cons_zero, List.set_cons_succ]
        refine HT.take (i := 19) (oi := _) (v := ?_) rfl (by kernel_rfl) (by kernel_rfl) (by decide) (fun _ _ _ h => h) (Or.inl ⟨by rfl, ?_⟩) hS ?_
        rotate_left
        · intro wz
          go_simp
          try with_reducible rfl
        simp only [List.getElem_toArray, List.getElem_cons_succ, List.getElem_cons_zero, Act.put, List.setIfInBounds_toArray, List.set_cons_zero, List.set_cons_succ]
        refine HT.one (i := 3) (o := _) rfl (by kernel_rfl) (by decide) (by rfl) ?_
        intro K hK
        go_simp
        refine (ITOAZ_any _ (by omega) (by omega) _ HTB).mono ?_
        rintro e9 wn ⟨z1, rfl, hz1, HZ1, hbn⟩
        replace HTB := Lib.hid (HTB.out.below hbn)
        have HBn := Lib.hid (HBc.out.trans (hbn.mono HBc.out.size))
        refine hK.out _ _ trivial ?_
        clear hK K
        try simp only [List.getElem_toArray, List.getElem_cons_succ, List.getElem_cons_zero, Act.put, List.setIfInBounds_toArray, List.set_cons_zero, List.set_cons_succ]
        have HBc := HBn
        clear HBn hbn
        obtain ⟨wc, rfl⟩ : ∃ x : World, x = wn := ⟨_, rfl⟩
        refine HT.take (i := 4) (oi := _) (v := .string ((⟨#[]⟩ : ByteArray) ++ z1)) rfl (by kernel_rfl) (by kernel_rfl) (by decide) (fun _ _ _ h => h) (Or.inl ⟨by rfl, ?_⟩) hS ?_
        · intro wz
          go_simp
          first | rfl | omega | (rw [if_neg (by omega)])
        simp only [List.getElem_toArray, List.getElem_cons_succ, List.getElem_cons_zero, Act.put, List.setIfInBounds_toArray, List.set_cons_zero, List.set_cons_succ]
        refine HT.take (i := 5) (oi := _) (v := .string ((⟨#[]⟩ : ByteArray) ++ z1 ++ ⟨#[58]⟩)) rfl (by kernel_rfl) (by kernel_rfl) (by decide) (fun _ _ _ h => h) (Or.inl ⟨by rfl, ?_⟩) hS ?_
        · intro wz
          go_simp
          first | rfl | omega | (rw [if_neg (by omega)])
        simp only [List.getElem_toArray, List.getElem_cons_succ, List.getElem_cons_zero, Act.put, List.setIfInBounds_toArray, List.set_cons_zero, List.set_cons_succ]
        refine HT.one (i := 9) (o := _) rfl (by kernel_rfl) (by decide) (by rfl) ?_
        intro K hK
        go_simp
        refine (RTWO_any _ (by omega) (by omega) _ HTB).mono ?_
        rintro e9 wn ⟨z2, rfl, hz2, HZ2, hbn⟩
        replace HTB := Lib.hid (HTB.out.below hbn)
        have HBn := Lib.hid (HBc.out.trans (hbn.mono HBc.out.size))
        refine hK.out _ _ trivial ?_
        clear hK K
        try simp only [List.getElem_toArray, List.getElem_cons_succ, List.getElem_cons_zero, Act.put, List.setIfInBounds_toArray, List.set_cons_zero, List.set_cons_succ]
        have HBc := HBn
        clear HBn hbn
        obtain ⟨wc, rfl⟩ : ∃ x : World, x = wn := ⟨_, rfl⟩
        refine HT.take (i := 10) (oi := _) (v := .string ((⟨#[]⟩ : ByteArray) ++ z1 ++ ⟨#[58]⟩ ++ z2)) rfl (by kernel_rfl) (by kernel_rfl) (by decide) (fun _ _ _ h => h) (Or.inl ⟨by rfl, ?_⟩) hS ?_
        · intro wz
          go_simp
          first | rfl | omega | (rw [if_neg (by omega)])
        simp only [List.getElem_toArray, List.getElem_cons_succ, List.getElem_cons_zero, Act.put, List.setIfInBounds_toArray, List.set_cons_zero, List.set_cons_succ]
        refine HT.take (i := 11) (oi := _) (v := .string ((⟨#[]⟩ : ByteArray) ++ z1 ++ ⟨#[58]⟩ ++ z2 ++ ⟨#[58]⟩)) rfl (by kernel_rfl) (by kernel_rfl) (by decide) (fun _ _ _ h => h) (Or.inl ⟨by rfl, ?_⟩) hS ?_
        · intro wz
          go_simp
          first | rfl | omega | (rw [if_neg (by omega)])
        simp only [List.getElem_toArray, List.getElem_cons_succ, List.getElem_cons_zero, Act.put, List.setIfInBounds_toArray, List.set_cons_zero, List.set_cons_succ]
        refine HT.one (i := 14) (o := _) rfl (by kernel_rfl) (by decide) (by rfl) ?_
        intro K hK
        go_simp
        refine (RTWO_any _ (by omega) (by omega) _ HTB).mono ?_
        rintro e9 wn ⟨z3, rfl, hz3, HZ3, hbn⟩
        replace HTB := Lib.hid (HTB.out.below hbn)
        have HBn := Lib.hid (HBc.out.trans (hbn.mono HBc.out.size))
        refine hK.out _ _ trivial ?_
        clear hK K
        try simp only [List.getElem_toArray, List.getElem_cons_succ, List.getElem_cons_zero, Act.put, List.setIfInBounds_toArray, List.set_cons_zero, List.set_cons_succ]
        have HBc := HBn
        clear HBn hbn
        obtain ⟨wc, rfl⟩ : ∃ x : World, x = wn := ⟨_, rfl⟩
        refine HT.take (i := 15) (oi := _) (v := .string ((⟨#[]⟩ : ByteArray) ++ z1 ++ ⟨#[58]⟩ ++ z2 ++ ⟨#[58]⟩ ++ z3)) rfl (by kernel_rfl) (by kernel_rfl) (by decide) (fun _ _ _ h => h) (Or.inl ⟨by rfl, ?_⟩) hS ?_
        · intro wz
          go_simp
          first | rfl | omega | (rw [if_neg (by omega)])
        simp only [List.getElem_toArray, List.getElem_cons_succ, List.getElem_cons_zero, Act.put, List.setIfInBounds_toArray, List.set_cons_zero, List.set_cons_succ]
        refine HT.take (i := 16) (oi := _) (v := .string ((⟨#[]⟩ : ByteArray) ++ z1 ++ ⟨#[58]⟩ ++ z2 ++ ⟨#[58]⟩ ++ z3 ++ ⟨#[43]⟩)) rfl (by kernel_rfl) (by kernel_rfl) (by decide) (fun _ _ _ h => h) (Or.inl ⟨by rfl, ?_⟩) hS ?_
        · intro wz
          go_simp
          first | rfl | omega | (rw [if_neg (by omega)])
        simp only [List.getElem_toArray, List.getElem_cons_succ, List.getElem_cons_zero, Act.put, List.setIfInBounds_toArray, List.set_cons_zero, List.set_cons_succ]
        refine HT.one (i := 20) (o := _) rfl (by kernel_rfl) (by decide) (by rfl) ?_
        intro K hK
        go_simp
        refine (ITOAZ_any _ (by omega) (by omega) _ HTB).mono ?_
        rintro e9 wn ⟨z4, rfl, hz4, HZ4, hbn⟩
        replace HTB := Lib.hid (HTB.out.below hbn)
        have HBn := Lib.hid (HBc.out.trans (hbn.mono HBc.out.size))
        refine hK.out _ _ trivial ?_
        clear hK K
        try simp only [List.getElem_toArray, List.getElem_cons_succ, List.getElem_cons_zero, Act.put, List.setIfInBounds_toArray, List.set_cons_zero, List.set_cons_succ]
        have HBc := HBn
        clear HBn hbn
        obtain ⟨wc, rfl⟩ : ∃ x : World, x = wn := ⟨_, rfl⟩
        refine HT.take (i := 21) (oi := _) (v := .string ((⟨#[]⟩ : ByteArray) ++ z1 ++ ⟨#[58]⟩ ++ z2 ++ ⟨#[58]⟩ ++ z3 ++ ⟨#[43]⟩ ++ z4)) rfl (by kernel_rfl) (by kernel_rfl) (by decide) (fun _ _ _ h => h) (Or.inl ⟨by rfl, ?_⟩) hS ?_
        · intro wz
          go_simp
          first | rfl | omega | (rw [if_neg (by omega)])
        simp only [List.getElem_toArray, List.getElem_cons_succ, List.getElem_cons_zero, Act.put, List.setIfInBounds_toArray, List.set_cons_zero, List.set_cons_succ]
        refine HT.done (by kernel_rfl) ?_
        clear hS
        simp only [List.drop_succ_cons, List.drop_zero]
        go_wp2_with fail
        refine bodyPost_ret (v := .tuple #[.string ((⟨#[]⟩ : ByteArray) ++ z1 ++ ⟨#[58]⟩ ++ z2 ++ ⟨#[58]⟩ ++ z3 ++ ⟨#[43]⟩ ++ z4), .int .i64 0]) (by simp [results, Tryz.results9, go_sem]) rfl ?_
        rw [HV.out]
        refine ⟨_, rfl, ?_, HBc.out⟩
        have t1 : ((q : Int) / 3600).toNat = q / 3600 := by omega
        have t2 : ((q : Int) / 60 % 60).toNat = q / 60 % 60 := by omega
        have t3 : ((q : Int) % 60).toNat = q % 60 := by omega
        have g1 := HZ1.out
        have g2 := HZ2.out
        have g3 := HZ3.out
        have g4 := HZ4.out
        rw [t1] at g1
        rw [t2] at g2
        rw [t3] at g3
        rw [Int.toNat_natCast] at g4
        dsimp only
        unfold showTxt showL hmsL sgnL
        rw [HNA.out, HQ.out, HM.out, if_neg (by omega)]
        simp only [ByteArray.data_append, Array.toList_append, g1, g2, g3, g4]
        simp
end Go.Proofs.YthgjgiccoobcgaaGreatDoor
