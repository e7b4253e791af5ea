/- Pack, the reference's. -/
import Derived.Test.YtlnjildkdmeflaaDoorPack1
set_option linter.unusedSimpArgs false
set_option linter.unusedVariables false
namespace Go.Proofs.YtlnjildkdmeflaaDoor
open Go.RowKit Go.Dw
/-- a row of the call's own at A grows, the cell of a chunk's bytes stays -/
structure CxAt (w0 : World) (base B : Nat) (p : Addr) (A5 : Option Addr) (m c5 : Nat) (dt : By) (x : World) (A : Option Addr) (n c : Nat) (acc : By) : Prop where
  below : Below base w0 x
  lt : p.block < B
  c1 : x.cell? p = some (.slice A5 m c5)
  by_ : BysAt x B A5 m dt
  own : OwnBys x base (.slice A n c) acc
  bs : base ≤ x.heap.size
  hB : B ≤ base
theorem CxAt.step {w0 : World} {base B : Nat} {p : Addr} {A5 : Option Addr} {m c5 : Nat} {dt : By} {x x' : World} {A A' : Option Addr} {n c n' c' : Nat} {acc acc' : By} (h : CxAt w0 base B p A5 m c5 dt x A n c acc)
    (hb : Below base x x') (ho : OwnBys x' base (.slice A' n' c') acc') : CxAt w0 base B p A5 m c5 dt x' A' n' c' acc' :=
  ⟨h.below.trans hb, h.lt, (hb.cell (p := p) (Nat.lt_of_lt_of_le h.lt h.hB)).trans h.c1, h.by_.below (hb.mono h.hB) (Nat.le_refl _), ho, Nat.le_trans h.bs hb.size, h.hB⟩
theorem CxAt.gr {w0 : World} {base B : Nat} {p : Addr} {A5 : Option Addr} {m c5 : Nat} {dt : By} {x x' : World} {A A' : Option Addr} {n c n' c' : Nat} {acc acc' : By} (h : CxAt w0 base B p A5 m c5 dt x A n c acc)
    (hg : Gr x x' A A') (ho : OwnBys x' base (.slice A' n' c') acc') : CxAt w0 base B p A5 m c5 dt x' A' n' c' acc' := h.step (hg.below h.bs (fun k hk => (own_lt_by h.own k hk).1)) ho
set_option maxRecDepth 100000 in
set_option maxHeartbeats 4000000 in
theorem RPACK_ok (A : Option Addr) (n c : Nat) (l : List Ck) (hn : n ≤ 1000) (hd : Hid (∀ c ∈ l, c.2.length ≤ 140737488351232)) (hc9 : n ≤ c ∧ c ≤ maxLen) (w : World) (B : Nat) (hB : B ≤ w.heap.size) (hh : Hid (CksAt w B A n l)) :
    Calls Tryd.prog 24 #[.slice A n c] w fun e w' => ∃ v f bs, e = .returned (.tuple #[v, .int .i64 f]) ∧ OwnBys w' w.heap.size v bs ∧ Below w.heap.size w w' ∧ (bs, f) = packS l := by
  have hl := Lib.hid hh.out.1
  have d1 : decide ((1000 : Int) < (n : Int)) = false := by simp; omega
  obtain ⟨hnc, hcm⟩ := hc9
  unfold maxLen at hcm
  go_enter Tryd.func24, Tryd.ntmps24
  go_wp2_with fail
  go_loopw [4, 5] (fun v i wr => ∃ k : Nat, k ≤ n ∧ i = .int .i64 k ∧ v = .int .i64 (sizeK l k) ∧ Hid (namesB l k = true) ∧ Hid (Below w.heap.size w wr)) (fun _ i _ => n - (intOf i).toNat)
  case atStart => exact ⟨0, Nat.zero_le _, rfl, rfl, rfl, Below.refl _ _⟩
  case round =>
    obtain ⟨k, hk, rfl, rfl, hN, hS⟩ := hrel
    by_cases hlt : k < n
    · obtain ⟨bA, oA, rfl, hb, k1, A5, c5, k2, hc1, hc2, -⟩ := (hh.out.below (hS.out.mono hB) (Nat.le_refl _)).ck hlt
      have hkl : k < l.length := by rw [hl.out]; exact hlt
      have hdm := hd.out _ (ck_mem hkl)
      have HSZ : Hid (sizeK l (k + 1) = sizeK l k + (8 + (ckOf l k).2.length + (ckOf l k).2.length % 2)) := sizeK_succ hkl
      have hsz := sizeK_le hd.out (k := k) (by omega)
      have HNS := Lib.hid (namesB_succ hkl)
      have HNB := Lib.hid (fun h => namesB_bad hkl h)
      obtain ⟨d, hd'⟩ : ∃ d, ckOf l k = d := ⟨_, rfl⟩
      rw [hd'] at k1 k2 hdm HSZ HNS HNB hc1
      obtain ⟨nm, dt⟩ := d
      dsimp only at k1 k2 hdm HSZ HNS HNB hc1
      obtain ⟨s, hs⟩ : ∃ s, ByteArray.mk nm.toArray = s := ⟨_, rfl⟩
      have HS := Lib.hid hs
      unfold strOf at k1
      rw [hs] at k1
      clear hs
      obtain ⟨m, hm⟩ : ∃ m, dt.length = m := ⟨_, rfl⟩
      rw [hm] at k2 hdm HSZ hc1
      obtain ⟨z, hz⟩ : ∃ z, sizeK l k = z := ⟨_, rfl⟩
      rw [hz] at HSZ hsz ⊢
      have hk0 : (0 : Int) ≤ (k : Int) := by omega
      have hkn : (k : Int) < (n : Int) := by omega
      have hsw := hS.out.size
      have hdm' := Lib.hid hdm
      have hw3 : wrap64 ((z : Int) + ((8 + m + m % 2 : Nat) : Int)) = (z : Int) + ((8 + m + m % 2 : Nat) : Int) := by
        have h := (room_wraps (z := z) hdm (Nat.le_trans hsz (Nat.mul_le_mul_right _ (Nat.le_trans hk hn)))).2.2
        rw [show ((8 + m + m % 2 : Nat) : Int) = 8 + (m : Int) + (m : Int) % 2 by omega]
        exact h
      clear hd' hm hz hc2 hc1 hlt hkl hsz hdm
      by_cases hnb : nameB nm = true
      · have HN2 : Hid (namesB l (k + 1) = true) := by show _ = _; rw [HNS.out, hN.out, hnb]; rfl
        have HNb := Lib.hid hnb
        clear hnb HNB HNS hN
        have hw4 := Lib.hid hw3
        clear hw3
        go_wp2_with fail
        refine (RCHUNKNAME_str nm s HS _).mono ?_
        rintro e w1 ⟨rfl, rfl⟩
        rw [HNb.out]
        go_wp2_with fail
        refine (RROOM_any (.string s) A5 m c5 hdm'.out _).mono ?_
        rintro e w1 ⟨rfl, hb1⟩
        have hb2 := Lib.hid (hS.out.trans (hb1.mono hsw))
        obtain ⟨q, hq⟩ : ∃ q, 8 + m + m % 2 = q := ⟨_, rfl⟩
        rw [hq] at HSZ hw4 ⊢
        have hw5 := hw4.out
        clear hb1 hq
        go_wp2_with fail
        go_roundw
        case rel => exact ⟨k + 1, by omega, by go_num, by rw [HSZ.out, hw5]; congr 1, HN2, hb2⟩
        case measure => simp [intOf]; omega
      · have hnb' : nameB nm = false := by simpa using hnb
        have HNA := Lib.hid (HNB.out hnb')
        have HNb := Lib.hid hnb'
        clear hnb hnb' HNB HNS hN hw3
        go_wp2_with fail
        refine (RCHUNKNAME_str nm s HS _).mono ?_
        rintro e w1 ⟨rfl, rfl⟩
        rw [HNb.out]
        go_wp2_with fail
        go_ret2
        refine ⟨_, _, [], rfl, World.ownsRow_nil _ _ _ _, hS.out, ?_⟩
        unfold packS
        rw [if_neg (by rw [hl.out]; omega), if_pos HNA.out]
    · obtain rfl : k = n := by omega
      have HNA : Hid (namesB l l.length = true) := by show _ = _; rw [hl.out]; exact hN.out
      have HSZ : Hid (sizeK l l.length = sizeK l k) := by show _ = _; rw [hl.out]
      have HMONO := Lib.hid (fun j => (sizeK_mono (l := l) (k := j)))
      obtain ⟨z, hz⟩ : ∃ z, sizeK l k = z := ⟨_, rfl⟩
      rw [hz] at HSZ ⊢
      have hsw := hS.out.size
      clear hz hN hlt hk
      by_cases hbig : 8000000 < z
      · have d2 : decide ((8000000 : Int) < (z : Int)) = true := by simp; omega
        clear hbig
        go_wp2_with fail
        go_ret2
        refine ⟨_, _, [], rfl, World.ownsRow_nil _ _ _ _, hS.out, ?_⟩
        unfold packS
        rw [if_neg (by rw [hl.out]; omega), if_neg (by rw [HNA.out]; simp), HSZ.out, if_pos (by simp at d2; omega)]
      · have d2 : decide ((8000000 : Int) < (z : Int)) = false := by simp; omega
        have HZ := Lib.hid (Nat.le_of_not_lt hbig)
        clear hbig
        go_wp2_with fail
        have HO3 : Hid (OwnBys wr w.heap.size (.slice none 0 0) (packK l 0)) := World.ownsRow_nil _ _ _ _
        have HS3 := hS
        clear d2
        go_loopw [6, 7] (fun v i wr => ∃ (j : Nat) (A7 : Option Addr) (c7 : Nat), j ≤ k ∧ i = .int .i64 j ∧ v = .slice A7 (sizeK l j) c7 ∧ Hid (OwnBys wr w.heap.size (.slice A7 (sizeK l j) c7) (packK l j)) ∧ Hid (Below w.heap.size w wr)) (fun _ i _ => k - (intOf i).toNat)
        case atStart => exact ⟨0, none, 0, Nat.zero_le _, rfl, rfl, HO3, HS3⟩
        case round =>
          obtain ⟨j, A7, c7, hj, rfl, rfl, hO, hS⟩ := hrel
          by_cases hjl : j < k
          · obtain ⟨bA, oA, rfl, hb, k1, A5, c5, k2, -, -, hby⟩ := (hh.out.below (hS.out.mono hB) (Nat.le_refl _)).ck hjl
            have hkl : j < l.length := by rw [hl.out]; exact hjl
            have HPK := Lib.hid (packK_succ hkl)
            have HSJ : Hid (sizeK l (j + 1) = sizeK l j + (8 + (ckOf l j).2.length + (ckOf l j).2.length % 2)) := sizeK_succ hkl
            have hz1 : sizeK l (j + 1) ≤ 8000000 := Nat.le_trans (HMONO.out (j + 1)) (by rw [HSZ.out]; exact HZ.out)
            have H4 := Lib.hid (nameB_four (namesB_at hkl HNA.out))
            obtain ⟨d, hd'⟩ : ∃ d, ckOf l j = d := ⟨_, rfl⟩
            rw [hd'] at k1 k2 HSJ HPK H4 hby
            obtain ⟨nm, dt⟩ := d
            dsimp only at k1 k2 HSJ HPK H4 hby
            obtain ⟨s, hs⟩ : ∃ s, ByteArray.mk nm.toArray = s := ⟨_, rfl⟩
            have HS := Lib.hid hs
            unfold strOf at k1
            rw [hs] at k1
            obtain ⟨m, hm⟩ : ∃ m, dt.length = m := ⟨_, rfl⟩
            have HM := Lib.hid hm
            rw [hm] at k2 HSJ hby
            obtain ⟨L, hL⟩ : ∃ L, sizeK l j = L := ⟨_, rfl⟩
            rw [hL] at HSJ hO ⊢
            obtain ⟨acc, hacc⟩ : ∃ acc, packK l j = acc := ⟨_, rfl⟩
            rw [hacc] at HPK hO
            have hbd : L + (8 + m + m % 2) ≤ 8000000 := by rw [← HSJ.out]; exact hz1
            have hk0 : (0 : Int) ≤ (j : Int) := by omega
            have hkn : (j : Int) < (k : Int) := by omega
            have hsw := hS.out.size
            have HB : Hid (CxAt w w.heap.size B ⟨bA, oA + j * 2 + 1, none⟩ A5 m c5 dt wr A7 L c7 acc) := ⟨hS.out, hb, k2, hby, hO.out, hsw, hB⟩
            clear hd' hs hm hL hacc hz1 hby hjl hkl hO hS k2
            by_cases hodd : m % 2 = 1
            · have d5 : ((m : Int) % 2 == 1) = true := by simp; omega
              have HPAD : Hid (padB m = [0]) := by show _ = _; unfold padB; rw [if_pos hodd]
              have hfn : L + 4 + 4 + m + 1 = sizeK l (j + 1) := by rw [HSJ.out]; omega
              have HFN := Lib.hid hfn
              clear hfn
              clear hodd
              go_wp2_with (with_reducible refine wpList_app_str rfl (.tmp 39) (.tmp 44) rfl w.heap.size A7 L c7 acc rfl HB.out.own nm 4 s H4 HS rfl (by omega) HB.out.bs ?_; intro A8 c8 w8 ho8 hg8; have HB8 := Lib.hid (HB.out.gr hg8 ho8); have e8 := HB8.out.c1; clear ho8 hg8 HB k1)
              refine (RLITTLE_any m 4 (by omega) (by omega) (by omega) _).mono ?_
              rintro e w9 ⟨v9, rfl, ho9, hb9⟩
              have HB9 := Lib.hid (HB8.out.step (hb9.mono HB8.out.bs) (HB8.out.own.below hb9))
              obtain ⟨A9, c9, rfl, _, _⟩ := ho9.form
              have R9 := Lib.hid ho9.at_
              rw [leZ_length] at R9 ⊢
              have e9 := HB9.out.c1
              clear ho9 hb9 HB8 e8
              go_wp2_with (first | (with_reducible refine wpList_app_bys rfl (.tmp 46) (.tmp 53) rfl w.heap.size A8 (L + 4) c8 (acc ++ nm) rfl HB9.out.own w9.heap.size A9 4 c9 (leZ m 4) rfl R9.out (by omega) HB9.out.bs ?_; intro A10 c10 w10 ho10 hg10; have HB10 := Lib.hid (HB9.out.gr hg10 ho10); have e10 := HB10.out.c1; clear ho10 hg10 HB9 e9 R9) | (with_reducible refine wpList_app_bys rfl (.tmp 55) (.tmp 60) rfl w.heap.size A10 (L + 4 + 4) c10 (acc ++ nm ++ leZ m 4) rfl HB10.out.own B A5 m c5 dt rfl HB10.out.by_ (by omega) HB10.out.bs ?_; intro A11 c11 w11 ho11 hg11; have HB11 := Lib.hid (HB10.out.gr hg11 ho11); have e11 := HB11.out.c1; clear ho11 hg11 HB10 e10)| (with_reducible refine wpList_push_byte rfl (.tmp 70) (.tmp 71) rfl w.heap.size A11 (L + 4 + 4 + m) c11 _ 0 0 rfl w11.heap.size rfl rfl rfl HB11.out.own (by omega) HB11.out.bs ?_; intro g12 c12 w12 ho12 hg12; have HB12 := Lib.hid (HB11.out.gr hg12 ho12); clear ho12 hg12 HB11 e11))
              have HFin : Hid (OwnBys w12 w.heap.size (.slice (some ⟨g12, 0, none⟩) (sizeK l (j + 1)) c12) (packK l (j + 1))) := by
                show OwnBys _ _ _ _
                have h1 := HB12.out.own
                rw [HFN.out] at h1
                rw [HPK.out]
                unfold pack1
                dsimp only
                rw [HM.out, HPAD.out]
                simpa only [List.append_assoc] using h1
              go_roundw
              case rel => exact ⟨j + 1, _, _, by omega, by go_num, by rw [HFN.out], HFin, Lib.hid HB12.out.below⟩
              case measure => simp [intOf]; omega
            · have d5 : ((m : Int) % 2 == 1) = false := by simp; omega
              have HPAD : Hid (padB m = []) := by show _ = _; unfold padB; rw [if_neg hodd]
              have hfn : L + 4 + 4 + m = sizeK l (j + 1) := by rw [HSJ.out]; omega
              have HFN := Lib.hid hfn
              clear hfn
              clear hodd
              go_wp2_with (with_reducible refine wpList_app_str rfl (.tmp 39) (.tmp 44) rfl w.heap.size A7 L c7 acc rfl HB.out.own nm 4 s H4 HS rfl (by omega) HB.out.bs ?_; intro A8 c8 w8 ho8 hg8; have HB8 := Lib.hid (HB.out.gr hg8 ho8); have e8 := HB8.out.c1; clear ho8 hg8 HB k1)
              refine (RLITTLE_any m 4 (by omega) (by omega) (by omega) _).mono ?_
              rintro e w9 ⟨v9, rfl, ho9, hb9⟩
              have HB9 := Lib.hid (HB8.out.step (hb9.mono HB8.out.bs) (HB8.out.own.below hb9))
              obtain ⟨A9, c9, rfl, _, _⟩ := ho9.form
              have R9 := Lib.hid ho9.at_
              rw [leZ_length] at R9 ⊢
              have e9 := HB9.out.c1
              clear ho9 hb9 HB8 e8
              go_wp2_with (first | (with_reducible refine wpList_app_bys rfl (.tmp 46) (.tmp 53) rfl w.heap.size A8 (L + 4) c8 (acc ++ nm) rfl HB9.out.own w9.heap.size A9 4 c9 (leZ m 4) rfl R9.out (by omega) HB9.out.bs ?_; intro A10 c10 w10 ho10 hg10; have HB10 := Lib.hid (HB9.out.gr hg10 ho10); have e10 := HB10.out.c1; clear ho10 hg10 HB9 e9 R9) | (with_reducible refine wpList_app_bys rfl (.tmp 55) (.tmp 60) rfl w.heap.size A10 (L + 4 + 4) c10 (acc ++ nm ++ leZ m 4) rfl HB10.out.own B A5 m c5 dt rfl HB10.out.by_ (by omega) HB10.out.bs ?_; intro A11 c11 w11 ho11 hg11; have HB11 := Lib.hid (HB10.out.gr hg11 ho11); have e11 := HB11.out.c1; clear ho11 hg11 HB10 e10))
              have HFin : Hid (OwnBys w11 w.heap.size (.slice A11 (sizeK l (j + 1)) c11) (packK l (j + 1))) := by
                show OwnBys _ _ _ _
                have h1 := HB11.out.own
                rw [HFN.out] at h1
                rw [HPK.out]
                unfold pack1
                dsimp only
                rw [HM.out, HPAD.out, List.append_nil]
                simpa only [List.append_assoc] using h1
              go_roundw
              case rel => exact ⟨j + 1, _, _, by omega, by go_num, by rw [HFN.out], HFin, Lib.hid HB11.out.below⟩
              case measure => simp [intOf]; omega
          · obtain rfl : j = k := by omega
            go_wp2_with fail
            go_ret2
            refine ⟨_, _, packK l j, rfl, hO.out, hS.out, ?_⟩
            unfold packS
            rw [if_neg (by rw [hl.out]; omega), if_neg (by rw [HNA.out]; simp), if_neg (by rw [HSZ.out]; have := HZ.out; omega), hl.out]
theorem RPACK_any (A : Option Addr) (n c : Nat) (l : List Ck) (hd : Hid (∀ c ∈ l, c.2.length ≤ 140737488351232)) (hc9 : n ≤ c ∧ c ≤ maxLen) (w : World) (B : Nat) (hB : B ≤ w.heap.size) (hh : Hid (CksAt w B A n l)) :
    Calls Tryd.prog 24 #[.slice A n c] w fun e w' => ∃ v, e = .returned (.tuple #[v, .int .i64 (packS l).2]) ∧ OwnBys w' w.heap.size v (packS l).1 ∧ Below w.heap.size w w' := by
  by_cases hn : n ≤ 1000
  · refine (RPACK_ok A n c l hn hd hc9 w B hB hh).mono fun e w' ⟨v, f, bs, h1, h2, h3, h4⟩ => ?_
    rw [← h4]
    exact ⟨v, h1, h2, h3⟩
  · have hl := hh.out.1
    have hp : packS l = ([], 2) := by unfold packS; rw [if_pos (by omega)]
    rw [hp]
    have d1 : decide ((1000 : Int) < (n : Int)) = true := by simp; omega
    clear hn hl hp hd hc9 hh
    go_enter Tryd.func24, Tryd.ntmps24
    go_wp2_with fail
    go_ret2
    exact ⟨_, rfl, World.ownsRow_nil _ _ _ _, Below.refl _ _⟩
end Go.Proofs.YtlnjildkdmeflaaDoor
