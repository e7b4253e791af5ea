/- clock.two, clock.pair, clock.Show; the document's two and Show. -/
import Derived.Test.YthgjgiccoobcgaaGreatDoorTxt
import Derived.Test.YthgjgiccoobcgaaGreatDoorZb
import Derived.Test.YthgjgiccoobcgaaGreatDoorYk
import Derived.Test.YthgjgiccoobcgaaGreatDoorBof
import Derived.Test.YthgjgiccoobcgaaGreatDoorShelf
import Derived.Shelf.Strings.SlTrimAscii
set_option linter.unusedSimpArgs false
set_option linter.unusedVariables false
namespace Go.Proofs.YthgjgiccoobcgaaGreatDoor
open Go.RowKit Go.Dw Go.Joins
set_option maxRecDepth 100000 in
set_option maxHeartbeats 1000000 in
theorem TWO_any (n : Int) (h0 : 0 ≤ n) (h1 : n < 100) (w : World) : Calls Tryz.prog 33 #[.int .i64 n] w fun e w' => ∃ z : ByteArray, e = .returned (.string z) ∧ z.size = 2 ∧ Hid (z.data.toList = two2 n.toNat) ∧ Below w.heap.size w w' := by
  obtain ⟨k, rfl⟩ : ∃ k : Nat, n = (k : Int) := ⟨n.toNat, by omega⟩
  have hk : k < 100 := by omega
  clear h0 h1
  have HL : Hid ((strOfNums [48 + (k : Int) / 10, 48 + (k : Int) % 10]).data.toList = two2 k) := by
    show _ = _
    have e1 : (48 + (k : Int) / 10).toNat = 48 + k / 10 := by omega
    have e2 : (48 + (k : Int) % 10).toNat = 48 + k % 10 := by omega
    unfold two2 strOfNums
    simp [e1, e2]
  have HZ : Hid ((strOfNums [48 + (k : Int) / 10, 48 + (k : Int) % 10]).size = 2) := by show _ = _; rw [← len_data, HL.out]; rfl
  have hcv := run_convert_bytes_arg (P := Tryz.prog) (w := w.alloc (.cells #[.int .u8 (48 + (k : Int) / 10), .int .u8 (48 + (k : Int) % 10)] 5)) 95 5 Tryz.underlying95 Tryz.underlying5 w.heap.size 0 2 2 [48 + (k : Int) / 10, 48 + (k : Int) % 10] rfl (fun i hi => by
    rw [Nat.zero_add, World.cell?_alloc_new]
    match i, hi with
    | 0, _ => rfl
    | 1, _ => rfl) 9 Tryz.underlying9
  obtain ⟨fs, hfs⟩ : ∃ fs, strOfNums [48 + (k : Int) / 10, 48 + (k : Int) % 10] = fs := ⟨_, rfl⟩
  rw [hfs] at hcv HL HZ
  clear hfs
  go_enter Tryz.func33, Tryz.ntmps33
  go_wp2_with fail
  go_ret
  exact ⟨fs, rfl, HZ.out, by rw [Int.toNat_natCast]; exact HL.out, (Below.refl _ w).alloc (Nat.le_refl _) _⟩
theorem trim_pair {l : List UInt8} (h2 : l.length = 2) : (Lib.trimS l [48, 49, 50, 51, 52, 53, 54, 55, 56, 57] = []) ↔ AllDig l := by
  have hc : ∀ c : UInt8, ([48, 49, 50, 51, 52, 53, 54, 55, 56, 57] : List UInt8).contains c = decide (48 ≤ c.toNat ∧ c.toNat ≤ 57) := fun c => by
    have key : ∀ n : Fin 256, ([48, 49, 50, 51, 52, 53, 54, 55, 56, 57] : List UInt8).contains (UInt8.ofNat n.val) = decide (48 ≤ n.val ∧ n.val ≤ 57) := by decide +kernel
    have := key ⟨c.toNat, c.toNat_lt⟩
    rwa [UInt8.ofNat_toNat] at this
  match l, h2 with
  | [a, b], _ =>
    unfold Lib.trimS Lib.trimLeftS Lib.trimRightS AllDig
    simp only [List.reverse_cons, List.reverse_nil, List.nil_append, List.singleton_append, List.dropWhile_cons, List.dropWhile_nil, hc, List.mem_cons, List.not_mem_nil, or_false, forall_eq_or_imp, forall_eq]
    by_cases h1 : 48 ≤ a.toNat ∧ a.toNat ≤ 57 <;> by_cases h2 : 48 ≤ b.toNat ∧ b.toNat ≤ 57 <;> simp [h1, h2, List.dropWhile_cons, hc]
theorem TRIM_pair (s : ByteArray) (h2 : s.size = 2) (w : World) : Calls Tryz.prog 70 #[.string s, .string ⟨#[48, 49, 50, 51, 52, 53, 54, 55, 56, 57]⟩] w fun e w' => ∃ z : ByteArray, e = .returned (.string z) ∧ Hid (z.toList.isEmpty = pairD s.data.toList) ∧ Below w.heap.size w w' := by
  refine (Any.strings_Trim_laid Tryz.lays160 (by kernel_rfl) s ⟨#[48, 49, 50, 51, 52, 53, 54, 55, 56, 57]⟩ w (by omega) (by decide) (ascii_of_all (by decide))).mono ?_
  rintro e w' ⟨rfl, hb⟩
  refine ⟨_, rfl, ?_, hb⟩
  show _ = _
  have hl : s.data.toList.length = 2 := by rw [len_data]; exact h2
  have ht := trim_pair hl
  rw [ByteArray.toList_eq]
  by_cases h : AllDig s.data.toList
  · rw [pairD_true ⟨hl, h⟩]
    have := ht.2 h
    simp [this]
  · rw [pairD_false (fun q => h q.2)]
    have := fun e => h (ht.1 e)
    rw [Bool.eq_false_iff]; simpa using this
set_option maxRecDepth 100000 in
set_option maxHeartbeats 1000000 in
theorem PAIR_any (s : ByteArray) (hs : s.size ≤ 1048576) (w : World) : Calls Tryz.prog 41 #[.string s] w fun e w' => e = .returned (.bool (pairD s.data.toList)) ∧ Below w.heap.size w w' := by
  by_cases h2 : s.size = 2
  · have hq : ((s.size : Int) == 2) = true := by simp; omega
    go_enter Tryz.func41, Tryz.ntmps41
    go_wp2_with (go_at_call 70; refine (TRIM_pair s h2 _).mono ?_; rintro e w1 ⟨z, rfl, hz, hb1⟩)
    go_ret
    exact ⟨by rw [← hz.out]; rfl, hb1⟩
  · have hq : ((s.size : Int) == 2) = false := by simp; omega
    have HF := Lib.hid (pairD_false (l := s.data.toList) (fun q => h2 (by rw [← len_data]; exact q.1)))
    go_enter Tryz.func41, Tryz.ntmps41
    go_wp2_with fail
    go_ret
    exact ⟨by rw [HF.out]; rfl, Below.refl _ _⟩
theorem RTWO_any (n : Int) (h0 : 0 ≤ n) (h1 : n < 100) (w : World) (ht : Hid (TabAt w)) : Calls Tryz.prog 36 #[.int .i64 n] w fun e w' => ∃ z : ByteArray, e = .returned (.string z) ∧ z.size = 2 ∧ Hid (z.data.toList = two2 n.toNat) ∧ Below w.heap.size w w' := by
  by_cases h : n < 10
  · go_enter Tryz.func36, Tryz.ntmps36
    go_wp2_with (go_at_call 32; refine (ITOAZ_any n (by omega) (by omega) _ ht).mono ?_; rintro e w1 ⟨z, rfl, hz1, hz, hb1⟩)
    go_ret
    refine ⟨_, rfl, ?_, ?_, hb1⟩
    · rw [← len_data, ByteArray.data_append, Array.toList_append, hz.out, Lib.decDigits, dif_pos (by omega)]; rfl
    · show _ = _
      rw [ByteArray.data_append, Array.toList_append, hz.out, two2_eq (by omega), if_pos (by omega)]; rfl
  · go_enter Tryz.func36, Tryz.ntmps36
    go_wp2_with (go_at_call 32; refine (ITOAZ_any n (by omega) (by omega) _ ht).mono ?_; rintro e w1 ⟨z, rfl, hz1, hz, hb1⟩)
    go_ret
    refine ⟨_, rfl, ?_, ?_, hb1⟩
    · rw [← len_data, hz.out, ← (two2_eq (n := n.toNat) (by omega)).trans (if_neg (by omega))]; rfl
    · show _ = _
      rw [hz.out, two2_eq (by omega), if_neg (by omega)]
theorem TWOT_any (n : Int) (h0 : 0 ≤ n) (h1 : n < 100) (w : World) (ht : Hid (TabAt w)) : Calls Tryz.prog 33 #[.int .i64 n] w fun e w' => ∃ z : ByteArray, e = .returned (.string z) ∧ z.size = 2 ∧ Hid (z.data.toList = two2 n.toNat) ∧ Below w.heap.size w w' := TWO_any n h0 h1 w
set_option maxRecDepth 100000 in
set_option maxHeartbeats 2000000 in
theorem SHOW_any (n rate : Int) (w : World) (ht : Hid (TabAt w)) :
    Calls Tryz.prog 8 #[.int .i64 n, .int .i64 rate] w fun e w' => ∃ z : ByteArray, e = .returned (.tuple #[.string z, .int .i64 (showS n rate).2]) ∧ z.data.toList = (showS n rate).1 ∧ Below w.heap.size w w' := by
  cases hp : okPos n with
  | false =>
    have HV : Hid (showS n rate = ([], 1)) := if_pos (.inl hp)
    have HP : Hid ((decide (-10000000000000 ≤ n) && decide (n ≤ 10000000000000)) = false) := hp
    clear hp
    go_enter Tryz.func8, Tryz.ntmps8
    go_wp2_with (go_at_call 30; refine (ISPOS_any _ _).mono ?_; rintro e w2 ⟨rfl, rfl⟩; rw [HP.out])
    refine bodyPost_ret (v := .tuple #[.string ⟨#[]⟩, .int .i64 1]) (by simp [results, Tryz.results8, go_sem]) rfl ?_
    rw [HV.out]
    exact ⟨_, rfl, rfl, Below.refl _ _⟩
  | true =>
    cases hr : okRate rate with
    | false =>
      have HV : Hid (showS n rate = ([], 1)) := if_pos (.inr hr)
      have HP : Hid ((decide (-10000000000000 ≤ n) && decide (n ≤ 10000000000000)) = true) := hp
      have HR : Hid ((decide (1 ≤ rate) && decide (rate ≤ 1000000)) = false) := hr
      clear hp hr
      go_enter Tryz.func8, Tryz.ntmps8
      go_wp2_with (first
        | (go_at_call 30; refine (ISPOS_any _ _).mono ?_; rintro e w2 ⟨rfl, rfl⟩; rw [HP.out])
        | (go_at_call 31; refine (ISRATE_any _ _).mono ?_; rintro e w2 ⟨rfl, rfl⟩; rw [HR.out]))
      refine bodyPost_ret (v := .tuple #[.string ⟨#[]⟩, .int .i64 1]) (by simp [results, Tryz.results8, go_sem]) rfl ?_
      rw [HV.out]
      exact ⟨_, rfl, rfl, Below.refl _ _⟩
    | true =>
      have HV : Hid (showS n rate = (showTxt n rate.toNat, 0)) := by show _ = _; unfold showS; rw [if_neg (by rw [hp, hr]; simp)]
      have HP : Hid ((decide (-10000000000000 ≤ n) && decide (n ≤ 10000000000000)) = true) := hp
      have HR : Hid ((decide (1 ≤ rate) && decide (rate ≤ 1000000)) = true) := hr
      obtain ⟨p1, p2⟩ := okPos_le hp
      obtain ⟨r1, r2⟩ := okRate_le hr
      clear hp hr
      obtain ⟨r, rfl⟩ : ∃ r : Nat, rate = (r : Int) := ⟨rate.toNat, by omega⟩
      rw [Int.toNat_natCast] at HV
      have HTB := ht
      go_enter Tryz.func8, Tryz.ntmps8
      go_upto_region 4 with (first
        | (go_at_call 30; refine (ISPOS_any _ _).mono ?_; rintro e w2 ⟨rfl, rfl⟩; rw [HP.out])
        | (go_at_call 31; refine (ISRATE_any _ _).mono ?_; rintro e w2 ⟨rfl, rfl⟩; rw [HR.out]))
      clear HP HR ht
      by_cases hneg : n < 0
      · obtain ⟨u, rfl⟩ : ∃ u : Nat, n = -(u : Int) := ⟨n.natAbs, by omega⟩
        have HNA : Hid ((-(u : Int)).natAbs = u) := by show _ = _; omega
        have hu : (u : Int) ≤ 10000000000000 := by omega
        obtain ⟨q, hq⟩ : ∃ q : Nat, u / r = q := ⟨_, rfl⟩
        obtain ⟨m, hm⟩ : ∃ m : Nat, u % r = m := ⟨_, rfl⟩
        have HQ := Lib.hid hq
        have HM := Lib.hid hm
        have kq : (u : Int) / (r : Int) = (q : Int) := by rw [← hq]; exact (Int.natCast_ediv u r).symm
        have km : (u : Int) % (r : Int) = (m : Int) := by rw [← hm]; exact (Int.natCast_emod u r).symm
        have hq2 : (q : Int) ≤ 10000000000000 := by have := Nat.div_le_self u r; omega
        have hm2 : (m : Int) ≤ 1000000 := by have := Nat.mod_lt u (show 0 < r by omega); omega
        have kw1 : IntKind.i64.wrap ((q : Int) / 3600) = (q : Int) / 3600 := IntWalk.i64_in _ (by omega)
        have kw2 : IntKind.i64.wrap ((q : Int) / 60) = (q : Int) / 60 := IntWalk.i64_in _ (by omega)
        have kw3 : ((q : Int) / 60).tmod 60 = (q : Int) / 60 % 60 := Int.tmod_eq_emod_of_nonneg (by omega)
        have kw4 : (q : Int).tmod 60 = (q : Int) % 60 := Int.tmod_eq_emod_of_nonneg (by omega)
        have kw5 : (u : Int).tmod (r : Int) = (m : Int) := by rw [Int.tmod_eq_emod_of_nonneg (by omega)]; exact km
        have hrne : r ≠ 0 := by omega
        clear hq hm
        go_upto_region 7 with (fail)
        refine wp_region_text 22 (fun _ => True) (by kernel_rfl) (by kernel_rfl) ?_
        obtain ⟨wc, hwc⟩ : ∃ x : World, x = w.drew := ⟨_, rfl⟩
        have hbn : Below w.heap.size w w.drew := (Below.refl _ _).drew
        replace HTB := Lib.hid (HTB.out.below hbn)
        have HBc : Hid (Below w.heap.size w wc) := by show Below _ _ _; rw [hwc]; exact hbn
        have hS : True := trivial
        rw [← hwc] at HTB
        rw [← hwc]
        clear hwc hbn
        refine HT.take (i := 0) (oi := _) (v := ?_) rfl (by kernel_rfl) (by kernel_rfl) (by decide) (fun _ _ _ h => h) (Or.inl ⟨by rfl, ?_⟩) hS ?_
        rotate_left
        · intro wz
          go_simp
          try with_reducible rfl
        simp only [List.getElem_toArray, List.getElem_cons_succ, List.getElem_cons_zero, Act.put, List.setIfInBounds_toArray, List.set_cons_zero, List.set_cons_succ]
        refine HT.take (i := 1) (oi := _) (v := ?_) rfl (by kernel_rfl) (by kernel_rfl) (by decide) (fun _ _ _ h => h) (Or.inl ⟨by rfl, ?_⟩) hS ?_
        rotate_left
        · intro wz
          go_simp
          try with_reducible rfl
        simp only [List.getElem_toArray, List.getElem_cons_succ, List.getElem_cons_zero, Act.put, List.setIfInBounds_toArray, List.set_cons_zero, List.set_cons_succ]
        refine HT.take (i := 2) (oi := _) (v := ?_) rfl (by kernel_rfl) (by kernel_rfl) (by decide) (fun _ _ _ h => h) (Or.inl ⟨by rfl, ?_⟩) hS ?_
        rotate_left
        · intro wz
          go_simp
          try with_reducible rfl
        simp only [List.getElem_toArray, List.getElem_cons_succ, List.getElem_cons_zero, Act.put, List.setIfInBounds_toArray, List.set_cons_zero, List.set_cons_succ]
        refine HT.take (i := 6) (oi := _) (v := ?_) rfl (by kernel_rfl) (by kernel_rfl) (by decide) (fun _ _ _ h => h) (Or.inl ⟨by rfl, ?_⟩) hS ?_
        rotate_left
        · intro wz
          go_simp
          try with_reducible rfl
        simp only [List.getElem_toArray, List.getElem_cons_succ, List.getElem_cons_zero, Act.put, List.setIfInBounds_toArray, List.set_cons_zero, List.set_cons_succ]
        refine HT.take (i := 7) (oi := _) (v := ?_) rfl (by kernel_rfl) (by kernel_rfl) (by decide) (fun _ _ _ h => h) (Or.inl ⟨by rfl, ?_⟩) hS ?_
        rotate_left
        · intro wz
          go_simp
          try with_reducible rfl
        simp only [List.getElem_toArray, List.getElem_cons_succ, List.getElem_cons_zero, Act.put, List.setIfInBounds_toArray, List.set_cons_zero, List.set_cons_succ]
        refine HT.take (i := 8) (oi := _) (v := ?_) rfl (by kernel_rfl) (by kernel_rfl) (by decide) (fun _ _ _ h => h) (Or.inl ⟨by rfl, ?_⟩) hS ?_
        rotate_left
        · intro wz
          go_simp
          try with_reducible rfl
        simp only [List.getElem_toArray, List.getElem_cons_succ, List.getElem_cons_zero, Act.put, List.setIfInBounds_toArray, List.set_cons_zero, List.set_cons_succ]
        refine HT.take (i := 12) (oi := _) (v := ?_) rfl (by kernel_rfl) (by kernel_rfl) (by decide) (fun _ _ _ h => h) (Or.inl ⟨by rfl, ?_⟩) hS ?_
        rotate_left
        · intro wz
          go_simp
          try with_reducible rfl
        simp only [List.getElem_toArray, List.getElem_cons_succ, List.getElem_cons_zero, Act.put, List.setIfInBounds_toArray, List.set_cons_zero, List.set_cons_succ]
        refine HT.take (i := 13) (oi := _) (v := ?_) rfl (by kernel_rfl) (by kernel_rfl) (by decide) (fun _ _ _ h => h) (Or.inl ⟨by rfl, ?_⟩) hS ?_
        rotate_left
        · intro wz
          go_simp
          try with_reducible rfl
        simp only [List.getElem_toArray, List.getElem_cons_succ, List.getElem_cons_zero, Act.put, List.setIfInBounds_toArray, List.set_cons_zero, List.set_cons_succ]
        refine HT.take (i := 17) (oi := _) (v := ?_) rfl (by kernel_rfl) (by kernel_rfl) (by decide) (fun _ _ _ h => h) (Or.inl ⟨by rfl, ?_⟩) hS ?_
        rotate_left
        · intro wz
          go_simp
          try with_reducible rfl
        simp only [List.getElem_toArray, List.getElem_cons_succ, List.getElem_cons_zero, Act.put, List.setIfInBounds_toArray, List.set_cons_zero, List.set_cons_succ]
        refine HT.take (i := 18) (oi := _) (v := ?_) rfl (by kernel_rfl) (by kernel_rfl) (by decide) (fun _ _ _ h => h) (Or.inl ⟨by rfl, ?_⟩) hS ?_
        rotate_left
        · intro wz
          go_simp
          try with_reducible rfl
        simp only [List.getElem_toArray, List.getElem_cons_succ, List.getElem_cons_zero, Act.put, List.setIfInBounds_toArray, List.set_cons_zero, List.set_cons_succ]
        refine HT.take (i := 19) (oi := _) (v := ?_) rfl (by kernel_rfl) (by kernel_rfl) (by decide) (fun _ _ _ h => h) (Or.inl ⟨by rfl, ?_⟩) hS ?_
        rotate_left
        · intro wz
          go_simp
          try with_reducible rfl
        simp only [List.getElem_toArray, List.getElem_cons_succ, List.getElem_cons_zero, Act.put, List.setIfInBounds_toArray, List.set_cons_zero, List.set_cons_succ]
        refine HT.one (i := 3) (o := _) rfl (by kernel_rfl) (by decide) (by rfl) ?_
        intro K hK
        go_simp
        refine (ITOAZ_any _ (by omega) (by omega) _ HTB).mono ?_
        rintro e9 wn ⟨z1, rfl, hz1, HZ1, hbn⟩
        replace HTB := Lib.hid (HTB.out.below hbn)
        have HBn := Lib.hid (HBc.out.trans (hbn.mono HBc.out.size))
        refine hK.out _ _ trivial ?_
        clear hK K
        try simp only [List.getElem_toArray, List.getElem_cons_succ, List.getElem_cons_zero, Act.put, List.setIfInBounds_toArray, List.set_cons_zero, List.set_cons_succ]
        have HBc := HBn
        clear HBn hbn
        obtain ⟨wc, rfl⟩ : ∃ x : World, x = wn := ⟨_, rfl⟩
        refine HT.take (i := 4) (oi := _) (v := .string ((⟨#[45]⟩ : ByteArray) ++ z1)) rfl (by kernel_rfl) (by kernel_rfl) (by decide) (fun _ _ _ h => h) (Or.inl ⟨by rfl, ?_⟩) hS ?_
        · intro wz
          go_simp
          first | rfl | omega | (rw [if_neg (by omega)])
        simp only [List.getElem_toArray, List.getElem_cons_succ, List.getElem_cons_zero, Act.put, List.setIfInBounds_toArray, List.set_cons_zero, List.set_cons_succ]
        refine HT.take (i := 5) (oi := _) (v := .string ((⟨#[45]⟩ : ByteArray) ++ z1 ++ ⟨#[58]⟩)) rfl (by kernel_rfl) (by kernel_rfl) (by decide) (fun _ _ _ h => h) (Or.inl ⟨by rfl, ?_⟩) hS ?_
        · intro wz
          go_simp
          first | rfl | omega | (rw [if_neg (by omega)])
        simp only [List.getElem_toArray, List.getElem_cons_succ, List.getElem_cons_zero, Act.put, List.setIfInBounds_toArray, List.set_cons_zero, List.set_cons_succ]
        refine HT.one (i := 9) (o := _) rfl (by kernel_rfl) (by decide) (by rfl) ?_
        intro K hK
        go_simp
        refine (TWOT_any _ (by omega) (by omega) _ HTB).mono ?_
        rintro e9 wn ⟨z2, rfl, hz2, HZ2, hbn⟩
        replace HTB := Lib.hid (HTB.out.below hbn)
        have HBn := Lib.hid (HBc.out.trans (hbn.mono HBc.out.size))
        refine hK.out _ _ trivial ?_
        clear hK K
        try simp only [List.getElem_toArray, List.getElem_cons_succ, List.getElem_cons_zero, Act.put, List.setIfInBounds_toArray, List.set_cons_zero, List.set_cons_succ]
        have HBc := HBn
        clear HBn hbn
        obtain ⟨wc, rfl⟩ : ∃ x : World, x = wn := ⟨_, rfl⟩
        refine HT.take (i := 10) (oi := _) (v := .string ((⟨#[45]⟩ : ByteArray) ++ z1 ++ ⟨#[58]⟩ ++ z2)) rfl (by kernel_rfl) (by kernel_rfl) (by decide) (fun _ _ _ h => h) (Or.inl ⟨by rfl, ?_⟩) hS ?_
        · intro wz
          go_simp
          first | rfl | omega | (rw [if_neg (by omega)])
        simp only [List.getElem_toArray, List.getElem_cons_succ, List.getElem_cons_zero, Act.put, List.setIfInBounds_toArray, List.set_cons_zero, List.set_cons_succ]
        refine HT.take (i := 11) (oi := _) (v := .string ((⟨#[45]⟩ : ByteArray) ++ z1 ++ ⟨#[58]⟩ ++ z2 ++ ⟨#[58]⟩)) rfl (by kernel_rfl) (by kernel_rfl) (by decide) (fun _ _ _ h => h) (Or.inl ⟨by rfl, ?_⟩) hS ?_
        · intro wz
          go_simp
          first | rfl | omega | (rw [if_neg (by omega)])
        simp only [List.getElem_toArray, List.getElem_cons_succ, List.getElem_cons_zero, Act.put, List.setIfInBounds_toArray, List.set_cons_zero, List.set_cons_succ]
        refine HT.one (i := 14) (o := _) rfl (by kernel_rfl) (by decide) (by rfl) ?_
        intro K hK
        go_simp
        refine (TWOT_any _ (by omega) (by omega) _ HTB).mono ?_
        rintro e9 wn ⟨z3, rfl, hz3, HZ3, hbn⟩
        replace HTB := Lib.hid (HTB.out.below hbn)
        have HBn := Lib.hid (HBc.out.trans (hbn.mono HBc.out.size))
        refine hK.out _ _ trivial ?_
        clear hK K
        try simp only [List.getElem_toArray, List.getElem_cons_succ, List.getElem_cons_zero, Act.put, List.setIfInBounds_toArray, List.set_cons_zero, List.set_cons_succ]
        have HBc := HBn
        clear HBn hbn
        obtain ⟨wc, rfl⟩ : ∃ x : World, x = wn := ⟨_, rfl⟩
        refine HT.take (i := 15) (oi := _) (v := .string ((⟨#[45]⟩ : ByteArray) ++ z1 ++ ⟨#[58]⟩ ++ z2 ++ ⟨#[58]⟩ ++ z3)) rfl (by kernel_rfl) (by kernel_rfl) (by decide) (fun _ _ _ h => h) (Or.inl ⟨by rfl, ?_⟩) hS ?_
        · intro wz
          go_simp
          first | rfl | omega | (rw [if_neg (by omega)])
        simp only [List.getElem_toArray, List.getElem_cons_succ, List.getElem_cons_zero, Act.put, List.setIfInBounds_toArray, List.set_cons_zero, List.set_cons_succ]
        refine HT.take (i := 16) (oi := _) (v := .string ((⟨#[45]⟩ : ByteArray) ++ z1 ++ ⟨#[58]⟩ ++ z2 ++ ⟨#[58]⟩ ++ z3 ++ ⟨#[43]⟩)) rfl (by kernel_rfl) (by kernel_rfl) (by decide) (fun _ _ _ h => h) (Or.inl ⟨by rfl, ?_⟩) hS ?_
        · intro wz
          go_simp
          first | rfl | omega | (rw [if_neg (by omega)])
        simp only [List.getElem_toArray, List.getElem_cons_succ, List.getElem_cons_zero, Act.put, List.setIfInBounds_toArray, List.set_cons_zero, List.set_cons_succ]
        refine HT.one (i := 20) (o := _) rfl (by kernel_rfl) (by decide) (by rfl) ?_
        intro K hK
        go_simp
        refine (ITOAZ_any _ (by omega) (by omega) _ HTB).mono ?_
        rintro e9 wn ⟨z4, rfl, hz4, HZ4, hbn⟩
        replace HTB := Lib.hid (HTB.out.below hbn)
        have HBn := Lib.hid (HBc.out.trans (hbn.mono HBc.out.size))
        refine hK.out _ _ trivial ?_
        clear hK K
        try simp only [List.getElem_toArray, List.getElem_cons_succ, List.getElem_cons_zero, Act.put, List.setIfInBounds_toArray, List.set_cons_zero, List.set_cons_succ]
        have HBc := HBn
        clear HBn hbn
        obtain ⟨wc, rfl⟩ : ∃ x : World, x = wn := ⟨_, rfl⟩
        refine HT.take (i := 21) (oi := _) (v := .string ((⟨#[45]⟩ : ByteArray) ++ z1 ++ ⟨#[58]⟩ ++ z2 ++ ⟨#[58]⟩ ++ z3 ++ ⟨#[43]⟩ ++ z4)) rfl (by kernel_rfl) (by kernel_rfl) (by decide) (fun _ _ _ h => h) (Or.inl ⟨by rfl, ?_⟩) hS ?_
        · intro wz
          go_simp
          first | rfl | omega | (rw [if_neg (by omega)])
        simp only [List.getElem_toArray, List.getElem_cons_succ, List.getElem_cons_zero, Act.put, List.setIfInBounds_toArray, List.set_cons_zero, List.set_cons_succ]
        refine HT.done (by kernel_rfl) ?_
        clear hS
        simp only [List.drop_succ_cons, List.drop_zero]
        go_wp2_with fail
        refine bodyPost_ret (v := .tuple #[.string ((⟨#[45]⟩ : ByteArray) ++ z1 ++ ⟨#[58]⟩ ++ z2 ++ ⟨#[58]⟩ ++ z3 ++ ⟨#[43]⟩ ++ z4), .int .i64 0]) (by simp [results, Tryz.results8, go_sem]) rfl ?_
        rw [HV.out]
        refine ⟨_, rfl, ?_, HBc.out⟩
        have t1 : ((q : Int) / 3600).toNat = q / 3600 := by omega
        have t2 : ((q : Int) / 60 % 60).toNat = q / 60 % 60 := by omega
        have t3 : ((q : Int) % 60).toNat = q % 60 := by omega
        have g1 := HZ1.out
        have g2 := HZ2.out
        have g3 := HZ3.out
        have g4 := HZ4.out
        rw [t1] at g1
        rw [t2] at g2
        rw [t3] at g3
        rw [Int.toNat_natCast] at g4
        dsimp only
        unfold showTxt showL hmsL sgnL
        rw [HNA.out, HQ.out, HM.out, if_pos hneg]
        simp only [ByteArray.data_append, Array.toList_append, g1, g2, g3, g4]
        simp
      · obtain ⟨u, rfl⟩ : ∃ u : Nat, n = (u : Int) := ⟨n.natAbs, by omega⟩
        have HNA : Hid ((u : Int).natAbs = u) := by show _ = _; omega
        have hu : (u : Int) ≤ 10000000000000 := by omega
        obtain ⟨q, hq⟩ : ∃ q : Nat, u / r = q := ⟨_, rfl⟩
        obtain ⟨m, hm⟩ : ∃ m : Nat, u % r = m := ⟨_, rfl⟩
        have HQ := Lib.hid hq
        have HM := Lib.hid hm
        have kq : (u : Int) / (r : Int) = (q : Int) := by rw [← hq]; exact (Int.natCast_ediv u r).symm
        have km : (u : Int) % (r : Int) = (m : Int) := by rw [← hm]; exact (Int.natCast_emod u r).symm
        have hq2 : (q : Int) ≤ 10000000000000 := by have := Nat.div_le_self u r; omega
        have hm2 : (m : Int) ≤ 1000000 := by have := Nat.mod_lt u (show 0 < r by omega); omega
        have kw1 : IntKind.i64.wrap ((q : Int) / 3600) = (q : Int) / 3600 := IntWalk.i64_in _ (by omega)
        have kw2 : IntKind.i64.wrap ((q : Int) / 60) = (q : Int) / 60 := IntWalk.i64_in _ (by omega)
        have kw3 : ((q : Int) / 60).tmod 60 = (q : Int) / 60 % 60 := Int.tmod_eq_emod_of_nonneg (by omega)
        have kw4 : (q : Int).tmod 60 = (q : Int) % 60 := Int.tmod_eq_emod_of_nonneg (by omega)
        have kw5 : (u : Int).tmod (r : Int) = (m : Int) := by rw [Int.tmod_eq_emod_of_nonneg (by omega)]; exact km
        have hrne : r ≠ 0 := by omega
        clear hq hm
        go_upto_region 7 with (fail)
        refine wp_region_text 22 (fun _ => True) (by kernel_rfl) (by kernel_rfl) ?_
        obtain ⟨wc, hwc⟩ : ∃ x : World, x = w.drew := ⟨_, rfl⟩
        have hbn : Below w.heap.size w w.drew := (Below.refl _ _).drew
        replace HTB := Lib.hid (HTB.out.below hbn)
        have HBc : Hid (Below w.heap.size w wc) := by show Below _ _ _; rw [hwc]; exact hbn
        have hS : True := trivial
        rw [← hwc] at HTB
        rw [← hwc]
        clear hwc hbn
        refine HT.take (i := 0) (oi := _) (v := ?_) rfl (by kernel_rfl) (by kernel_rfl) (by decide) (fun _ _ _ h => h) (Or.inl ⟨by rfl, ?_⟩) hS ?_
        rotate_left
        · intro wz
          go_simp
          try with_reducible rfl
        simp only [List.getElem_toArray, List.getElem_cons_succ, List.getElem_cons_zero, Act.put, List.setIfInBounds_toArray, List.set_cons_zero, List.set_cons_succ]
        refine HT.take (i := 1) (oi := _) (v := ?_) rfl (by kernel_rfl) (by kernel_rfl) (by decide) (fun _ _ _ h => h) (Or.inl ⟨by rfl, ?_⟩) hS ?_
        rotate_left
        · intro wz
          go_simp
          try with_reducible rfl
        simp only [List.getElem_toArray, List.getElem_cons_succ, List.getElem_cons_zero, Act.put, List.setIfInBounds_toArray, List.set_cons_zero, List.set_cons_succ]
        refine HT.take (i := 2) (oi := _) (v := ?_) rfl (by kernel_rfl) (by kernel_rfl) (by decide) (fun _ _ _ h => h) (Or.inl ⟨by rfl, ?_⟩) hS ?_
        rotate_left
        · intro wz
          go_simp
          try with_reducible rfl
        simp only [List.getElem_toArray, List.getElem_cons_succ, List.getElem_cons_zero, Act.put, List.setIfInBounds_toArray, List.set_cons_zero, List.set_cons_succ]
        refine HT.take (i := 6) (oi := _) (v := ?_) rfl (by kernel_rfl) (by kernel_rfl) (by decide) (fun _ _ _ h => h) (Or.inl ⟨by rfl, ?_⟩) hS ?_
        rotate_left
        · intro wz
          go_simp
          try with_reducible rfl
        simp only [List.getElem_toArray, List.getElem_cons_succ, List.getElem_cons_zero, Act.put, List.setIfInBounds_toArray, List.set_cons_zero, List.set_cons_succ]
        refine HT.take (i := 7) (oi := _) (v := ?_) rfl (by kernel_rfl) (by kernel_rfl) (by decide) (fun _ _ _ h => h) (Or.inl ⟨by rfl, ?_⟩) hS ?_
        rotate_left
        · intro wz
          go_simp
          try with_reducible rfl
        simp only [List.getElem_toArray, List.getElem_cons_succ, List.getElem_cons_zero, Act.put, List.setIfInBounds_toArray, List.set_cons_zero, List.set_cons_succ]
        refine HT.take (i := 8) (oi := _) (v := ?_) rfl (by kernel_rfl) (by kernel_rfl) (by decide) (fun _ _ _ h => h) (Or.inl ⟨by rfl, ?_⟩) hS ?_
        rotate_left
        · intro wz
          go_simp
          try with_reducible rfl
        simp only [List.getElem_toArray, List.getElem_cons_succ, List.getElem_cons_zero, Act.put, List.setIfInBounds_toArray, List.set_cons_zero, List.set_cons_succ]
        refine HT.take (i := 12) (oi := _) (v := ?_) rfl (by kernel_rfl) (by kernel_rfl) (by decide) (fun _ _ _ h => h) (Or.inl ⟨by rfl, ?_⟩) hS ?_
        rotate_left
        · intro wz
          go_simp
          try with_reducible rfl
        simp only [List.getElem_toArray, List.getElem_cons_succ, List.getElem_cons_zero, Act.put, List.setIfInBounds_toArray, List.set_cons_zero, List.set_cons_succ]
        refine HT.take (i := 13) (oi := _) (v := ?_) rfl (by kernel_rfl) (by kernel_rfl) (by decide) (fun _ _ _ h => h) (Or.inl ⟨by rfl, ?_⟩) hS ?_
        rotate_left
        · intro wz
          go_simp
          try with_reducible rfl
        simp only [List.getElem_toArray, List.getElem_cons_succ, List.getElem_cons_zero, Act.put, List.setIfInBounds_toArray, List.set_cons_zero, List.set_cons_succ]
        refine HT.take (i := 17) (oi := _) (v := ?_) rfl (by kernel_rfl) (by kernel_rfl) (by decide) (fun _ _ _ h => h) (Or.inl ⟨by rfl, ?_⟩) hS ?_
        rotate_left
        · intro wz
          go_simp
          try with_reducible rfl
        simp only [List.getElem_toArray, List.getElem_cons_succ, List.getElem_cons_zero, Act.put, List.setIfInBounds_toArray, List.set_cons_zero, List.set_cons_succ]
        refine HT.take (i := 18) (oi := _) (v := ?_) rfl (by kernel_rfl) (by kernel_rfl) (by decide) (fun _ _ _ h => h) (Or.inl ⟨by rfl, ?_⟩) hS ?_
        rotate_left
        · intro wz
          go_simp
          try with_reducible rfl
        simp only [List.getElem_toArray, List.getElem_cons_succ, List.getElem_cons_zero, Act.put, List.setIfInBounds_toArray, List.set_cons_zero, List.set_cons_succ]
        refine HT.take (i := 19) (oi := _) (v := ?_) rfl (by kernel_rfl) (by kernel_rfl) (by decide) (fun _ _ _ h => h) (Or.inl ⟨by rfl, ?_⟩) hS ?_
        rotate_left
        · intro wz
          go_simp
          try with_reducible rfl
        simp only [List.getElem_toArray, List.getElem_cons_succ, List.getElem_cons_zero, Act.put, List.setIfInBounds_toArray, List.set_cons_zero, List.set_cons_succ]
        refine HT.one (i := 3) (o := _) rfl (by kernel_rfl) (by decide) (by rfl) ?_
        intro K hK
        go_simp
        refine (ITOAZ_any _ (by omega) (by omega) _ HTB).mono ?_
        rintro e9 wn ⟨z1, rfl, hz1, HZ1, hbn⟩
        replace HTB := Lib.hid (HTB.out.below hbn)
        have HBn := Lib.hid (HBc.out.trans (hbn.mono HBc.out.size))
        refine hK.out _ _ trivial ?_
        clear hK K
        try simp only [List.getElem_toArray, List.getElem_cons_succ, List.getElem_cons_zero, Act.put, List.setIfInBounds_toArray, List.set_cons_zero, List.set_cons_succ]
        have HBc := HBn
        clear HBn hbn
        obtain ⟨wc, rfl⟩ : ∃ x : World, x = wn := ⟨_, rfl⟩
        refine HT.take (i := 4) (oi := _) (v := .string ((⟨#[]⟩ : ByteArray) ++ z1)) rfl (by kernel_rfl) (by kernel_rfl) (by decide) (fun _ _ _ h => h) (Or.inl ⟨by rfl, ?_⟩) hS ?_
        · intro wz
          go_simp
          first | rfl | omega | (rw [if_neg (by omega)])
        simp only [List.getElem_toArray, List.getElem_cons_succ, List.getElem_cons_zero, Act.put, List.setIfInBounds_toArray, List.set_cons_zero, List.set_cons_succ]
        refine HT.take (i := 5) (oi := _) (v := .string ((⟨#[]⟩ : ByteArray) ++ z1 ++ ⟨#[58]⟩)) rfl (by kernel_rfl) (by kernel_rfl) (by decide) (fun _ _ _ h => h) (Or.inl ⟨by rfl, ?_⟩) hS ?_
        · intro wz
          go_simp
          first | rfl | omega | (rw [if_neg (by omega)])
        simp only [List.getElem_toArray, List.getElem_cons_succ, List.getElem_cons_zero, Act.put, List.setIfInBounds_toArray, List.set_cons_zero, List.set_cons_succ]
        refine HT.one (i := 9) (o := _) rfl (by kernel_rfl) (by decide) (by rfl) ?_
        intro K hK
        go_simp
        refine (TWOT_any _ (by omega) (by omega) _ HTB).mono ?_
        rintro e9 wn ⟨z2, rfl, hz2, HZ2, hbn⟩
        replace HTB := Lib.hid (HTB.out.below hbn)
        have HBn := Lib.hid (HBc.out.trans (hbn.mono HBc.out.size))
        refine hK.out _ _ trivial ?_
        clear hK K
        try simp only [List.getElem_toArray, List.getElem_cons_succ, List.getElem_cons_zero, Act.put, List.setIfInBounds_toArray, List.set_cons_zero, List.set_cons_succ]
        have HBc := HBn
        clear HBn hbn
        obtain ⟨wc, rfl⟩ : ∃ x : World, x = wn := ⟨_, rfl⟩
        refine HT.take (i := 10) (oi := _) (v := .string ((⟨#[]⟩ : ByteArray) ++ z1 ++ ⟨#[58]⟩ ++ z2)) rfl (by kernel_rfl) (by kernel_rfl) (by decide) (fun _ _ _ h => h) (Or.inl ⟨by rfl, ?_⟩) hS ?_
        · intro wz
          go_simp
          first | rfl | omega | (rw [if_neg (by omega)])
        simp only [List.getElem_toArray, List.getElem_cons_succ, List.getElem_cons_zero, Act.put, List.setIfInBounds_toArray, List.set_cons_zero, List.set_cons_succ]
        refine HT.take (i := 11) (oi := _) (v := .string ((⟨#[]⟩ : ByteArray) ++ z1 ++ ⟨#[58]⟩ ++ z2 ++ ⟨#[58]⟩)) rfl (by kernel_rfl) (by kernel_rfl) (by decide) (fun _ _ _ h => h) (Or.inl ⟨by rfl, ?_⟩) hS ?_
        · intro wz
          go_simp
          first | rfl | omega | (rw [if_neg (by omega)])
        simp only [List.getElem_toArray, List.getElem_cons_succ, List.getElem_cons_zero, Act.put, List.setIfInBounds_toArray, List.set_cons_zero, List.set_cons_succ]
        refine HT.one (i := 14) (o := _) rfl (by kernel_rfl) (by decide) (by rfl) ?_
        intro K hK
        go_simp
        refine (TWOT_any _ (by omega) (by omega) _ HTB).mono ?_
        rintro e9 wn ⟨z3, rfl, hz3, HZ3, hbn⟩
        replace HTB := Lib.hid (HTB.out.below hbn)
        have HBn := Lib.hid (HBc.out.trans (hbn.mono HBc.out.size))
        refine hK.out _ _ trivial ?_
        clear hK K
        try simp only [List.getElem_toArray, List.getElem_cons_succ, List.getElem_cons_zero, Act.put, List.setIfInBounds_toArray, List.set_cons_zero, List.set_cons_succ]
        have HBc := HBn
        clear HBn hbn
        obtain ⟨wc, rfl⟩ : ∃ x : World, x = wn := ⟨_, rfl⟩
        refine HT.take (i := 15) (oi := _) (v := .string ((⟨#[]⟩ : ByteArray) ++ z1 ++ ⟨#[58]⟩ ++ z2 ++ ⟨#[58]⟩ ++ z3)) rfl (by kernel_rfl) (by kernel_rfl) (by decide) (fun _ _ _ h => h) (Or.inl ⟨by rfl, ?_⟩) hS ?_
        · intro wz
          go_simp
          first | rfl | omega | (rw [if_neg (by omega)])
        simp only [List.getElem_toArray, List.getElem_cons_succ, List.getElem_cons_zero, Act.put, List.setIfInBounds_toArray, List.set_cons_zero, List.set_cons_succ]
        refine HT.take (i := 16) (oi := _) (v := .string ((⟨#[]⟩ : ByteArray) ++ z1 ++ ⟨#[58]⟩ ++ z2 ++ ⟨#[58]⟩ ++ z3 ++ ⟨#[43]⟩)) rfl (by kernel_rfl) (by kernel_rfl) (by decide) (fun _ _ _ h => h) (Or.inl ⟨by rfl, ?_⟩) hS ?_
        · intro wz
          go_simp
          first | rfl | omega | (rw [if_neg (by omega)])
        simp only [List.getElem_toArray, List.getElem_cons_succ, List.getElem_cons_zero, Act.put, List.setIfInBounds_toArray, List.set_cons_zero, List.set_cons_succ]
        refine HT.one (i := 20) (o := _) rfl (by kernel_rfl) (by decide) (by rfl) ?_
        intro K hK
        go_simp
        refine (ITOAZ_any _ (by omega) (by omega) _ HTB).mono ?_
        rintro e9 wn ⟨z4, rfl, hz4, HZ4, hbn⟩
        replace HTB := Lib.hid (HTB.out.below hbn)
        have HBn := Lib.hid (HBc.out.trans (hbn.mono HBc.out.size))
        refine hK.out _ _ trivial ?_
        clear hK K
        try simp only [List.getElem_toArray, List.getElem_cons_succ, List.getElem_cons_zero, Act.put, List.setIfInBounds_toArray, List.set_cons_zero, List.set_cons_succ]
        have HBc := HBn
        clear HBn hbn
        obtain ⟨wc, rfl⟩ : ∃ x : World, x = wn := ⟨_, rfl⟩
        refine HT.take (i := 21) (oi := _) (v := .string ((⟨#[]⟩ : ByteArray) ++ z1 ++ ⟨#[58]⟩ ++ z2 ++ ⟨#[58]⟩ ++ z3 ++ ⟨#[43]⟩ ++ z4)) rfl (by kernel_rfl) (by kernel_rfl) (by decide) (fun _ _ _ h => h) (Or.inl ⟨by rfl, ?_⟩) hS ?_
        · intro wz
          go_simp
          first | rfl | omega | (rw [if_neg (by omega)])
        simp only [List.getElem_toArray, List.getElem_cons_succ, List.getElem_cons_zero, Act.put, List.setIfInBounds_toArray, List.set_cons_zero, List.set_cons_succ]
        refine HT.done (by kernel_rfl) ?_
        clear hS
        simp only [List.drop_succ_cons, List.drop_zero]
        go_wp2_with fail
        refine bodyPost_ret (v := .tuple #[.string ((⟨#[]⟩ : ByteArray) ++ z1 ++ ⟨#[58]⟩ ++ z2 ++ ⟨#[58]⟩ ++ z3 ++ ⟨#[43]⟩ ++ z4), .int .i64 0]) (by simp [results, Tryz.results8, go_sem]) rfl ?_
        rw [HV.out]
        refine ⟨_, rfl, ?_, HBc.out⟩
        have t1 : ((q : Int) / 3600).toNat = q / 3600 := by omega
        have t2 : ((q : Int) / 60 % 60).toNat = q / 60 % 60 := by omega
        have t3 : ((q : Int) % 60).toNat = q % 60 := by omega
        have g1 := HZ1.out
        have g2 := HZ2.out
        have g3 := HZ3.out
        have g4 := HZ4.out
        rw [t1] at g1
        rw [t2] at g2
        rw [t3] at g3
        rw [Int.toNat_natCast] at g4
        dsimp only
        unfold showTxt showL hmsL sgnL
        rw [HNA.out, HQ.out, HM.out, if_neg (by omega)]
        simp only [ByteArray.data_append, Array.toList_append, g1, g2, g3, g4]
        simp
end Go.Proofs.YthgjgiccoobcgaaGreatDoor
