/- Pack, the sound's. -/
import Derived.Test.YtlnjildkdmeflaaDoorSpecP
import Derived.RegionTactic
import Derived.BigRegion
import Derived.Deep.Cut
set_option linter.unusedSimpArgs false
set_option linter.unusedVariables false
namespace Go.Proofs.YtlnjildkdmeflaaDoor
open Go.RowKit Go.Dw
theorem CksAt.ck {w : World} {B n : Nat} {A : Option Addr} {l : List Ck} (h : CksAt w B A n l) {k : Nat} (hk : k < n) : ∃ b o, A = some ⟨b, o, none⟩ ∧ b < B ∧ w.cell? ⟨b, o + k * 2, none⟩ = some (strOf (ckOf l k).1) ∧ ∃ A' c', w.cell? ⟨b, o + k * 2 + 1, none⟩ = some (.slice A' (ckOf l k).2.length c') ∧
    (ckOf l k).2.length ≤ c' ∧ c' ≤ maxLen ∧ BysAt w B A' (ckOf l k).2.length (ckOf l k).2 := h.2 k hk
/-- a box at gx, a row of the call's own at A, while this row grows -/
structure BxAt (w0 : World) (base B gx : Nat) (A5 : Option Addr) (m c5 : Nat) (dt : By) (x : World) (A : Option Addr) (n c : Nat) (acc : By) : Prop where
  below : Below base w0 x
  lt : gx < x.heap.size
  c1 : x.cell? ⟨gx, 1, none⟩ = some (.slice A5 m c5)
  ne : some gx ≠ blkA A
  by_ : BysAt x B A5 m dt
  own : OwnBys x base (.slice A n c) acc
  bs : base ≤ x.heap.size
  hB : B ≤ base
theorem BxAt.step {w0 : World} {base B gx : Nat} {A5 : Option Addr} {m c5 : Nat} {dt : By} {x x' : World} {A A' : Option Addr} {n c n' c' : Nat} {acc acc' : By} (h : BxAt w0 base B gx A5 m c5 dt x A n c acc)
    (hg : Gr x x' A A') (ho : OwnBys x' base (.slice A' n' c') acc') : BxAt w0 base B gx A5 m c5 dt x' A' n' c' acc' := by
  have hb : Below base x x' := hg.below h.bs (fun k hk => (own_lt_by h.own k hk).1)
  refine ⟨h.below.trans hb, Nat.lt_of_lt_of_le h.lt hg.g.size, (hg.cell (p := ⟨gx, 1, none⟩) h.lt h.ne).trans h.c1, fun e => ?_, h.by_.below (hb.mono h.hB) (Nat.le_refl _), ho, Nat.le_trans h.bs hg.g.size, h.hB⟩
  rcases hg.at_ with h1 | ⟨g, h1, h2⟩
  · exact h.ne (e.trans h1)
  · rw [h1] at e; injection e with e; have := h.lt; omega
theorem room_wraps {z m : Nat} (hm : m ≤ 140737488351232) (hz : z ≤ 1000 * 140737488351241) :
    wrap64 (8 + (m : Int)) = 8 + m ∧ wrap64 (8 + (m : Int) + (m : Int) % 2) = 8 + (m : Int) + (m : Int) % 2 ∧ wrap64 ((z : Int) + (8 + (m : Int) + (m : Int) % 2)) = (z : Int) + (8 + (m : Int) + (m : Int) % 2) :=
  ⟨IntWalk.wrap64_in _ ⟨by omega, by omega⟩, IntWalk.wrap64_in _ ⟨by omega, by omega⟩, IntWalk.wrap64_in _ ⟨by omega, by omega⟩⟩
set_option maxRecDepth 100000 in
set_option maxHeartbeats 4000000 in
theorem PACK_ok (A : Option Addr) (n c : Nat) (l : List Ck) (hn : n ≤ 1000) (hd : Hid (∀ c ∈ l, c.2.length ≤ 140737488351232)) (hc9 : n ≤ c ∧ c ≤ maxLen) (w : World) (B : Nat) (hB : B ≤ w.heap.size) (hh : Hid (CksAt w B A n l)) :
    Calls Tryd.prog 18 #[.slice A n c] w fun e w' => ∃ v f bs, e = .returned (.tuple #[v, .int .i64 f]) ∧ OwnBys w' w.heap.size v bs ∧ Below w.heap.size w w' ∧ (bs, f) = packS l := by
  have hl := Lib.hid hh.out.1
  have d1 : decide ((1000 : Int) < (n : Int)) = false := by simp; omega
  obtain ⟨hnc, hcm⟩ := hc9
  unfold maxLen at hcm
  go_enter Tryd.func18, Tryd.ntmps18
  go_wp2_with fail
  go_loopw [4, 15] (fun v i wr => ∃ k : Nat, k ≤ n ∧ i = .int .i64 k ∧ v = .int .i64 (sizeK l k) ∧ Hid (namesB l k = true) ∧ Hid (Below w.heap.size w wr)) (fun _ i _ => n - (intOf i).toNat)
  case atStart => exact ⟨0, Nat.zero_le _, rfl, rfl, rfl, Below.refl _ _⟩
  case round =>
    obtain ⟨k, hk, rfl, rfl, hN, hS⟩ := hrel
    by_cases hlt : k < n
    · obtain ⟨bA, oA, rfl, hb, k1, A5, c5, k2, hc1, hc2, -⟩ := (hh.out.below (hS.out.mono hB) (Nat.le_refl _)).ck hlt
      have hkl : k < l.length := by rw [hl.out]; exact hlt
      have hdm := hd.out _ (ck_mem hkl)
      have HSZ : Hid (sizeK l (k + 1) = sizeK l k + (8 + (ckOf l k).2.length + (ckOf l k).2.length % 2)) := sizeK_succ hkl
      have hsz := sizeK_le hd.out (k := k) (by omega)
      have HNS := Lib.hid (namesB_succ hkl)
      have HNB := Lib.hid (fun h => namesB_bad hkl h)
      obtain ⟨d, hd'⟩ : ∃ d, ckOf l k = d := ⟨_, rfl⟩
      rw [hd'] at k1 k2 hdm HSZ HNS HNB hc1
      obtain ⟨nm, dt⟩ := d
      dsimp only at k1 k2 hdm HSZ HNS HNB hc1
      obtain ⟨s, hs⟩ : ∃ s, ByteArray.mk nm.toArray = s := ⟨_, rfl⟩
      have HS := Lib.hid hs
      unfold strOf at k1
      rw [hs] at k1
      clear hs
      obtain ⟨m, hm⟩ : ∃ m, dt.length = m := ⟨_, rfl⟩
      rw [hm] at k2 hdm HSZ hc1
      obtain ⟨z, hz⟩ : ∃ z, sizeK l k = z := ⟨_, rfl⟩
      rw [hz] at HSZ hsz ⊢
      have hk0 : (0 : Int) ≤ (k : Int) := by omega
      have hkn : (k : Int) < (n : Int) := by omega
      have hsw := hS.out.size
      obtain ⟨hw1, hw2, hw3⟩ := room_wraps (z := z) hdm (Nat.le_trans hsz (Nat.mul_le_mul_right _ (Nat.le_trans hk hn)))
      clear hd' hm hz hc2 hc1 hlt hkl hsz hdm
      by_cases hnb : nameB nm = true
      · have HN2 : Hid (namesB l (k + 1) = true) := by show _ = _; rw [HNS.out, hN.out, hnb]; rfl
        have HNb := Lib.hid hnb
        clear hnb HNB HNS hN
        go_wp2_with fail
        refine (CHUNKNAME_str nm s HS _).mono ?_
        rintro e w1 ⟨rfl, rfl⟩
        rw [HNb.out]
        go_wp2_with fail
        go_roundw
        case rel => exact ⟨k + 1, by omega, by go_num, by rw [HSZ.out, hw3]; congr 1, HN2, Lib.hid (hS.out.alloc hsw _)⟩
        case measure => simp [intOf]; omega
      · have hnb' : nameB nm = false := by simpa using hnb
        have HNA := Lib.hid (HNB.out hnb')
        have HNb := Lib.hid hnb'
        clear hnb hnb' HNB HNS hN
        go_wp2_with fail
        refine (CHUNKNAME_str nm s HS _).mono ?_
        rintro e w1 ⟨rfl, rfl⟩
        rw [HNb.out]
        go_wp2_with fail
        go_ret2
        refine ⟨_, _, [], rfl, World.ownsRow_nil _ _ _ _, hS.out.alloc hsw _, ?_⟩
        unfold packS
        rw [if_neg (by rw [hl.out]; omega), if_pos HNA.out]
    · obtain rfl : k = n := by omega
      have HNA : Hid (namesB l l.length = true) := by show _ = _; rw [hl.out]; exact hN.out
      have HSZ : Hid (sizeK l l.length = sizeK l k) := by show _ = _; rw [hl.out]
      have HMONO := Lib.hid (fun j => (sizeK_mono (l := l) (k := j)))
      have HPL := Lib.hid (fun j (hj : j ≤ l.length) => packK_length HNA.out hj)
      obtain ⟨z, hz⟩ : ∃ z, sizeK l k = z := ⟨_, rfl⟩
      rw [hz] at HSZ ⊢
      have hsw := hS.out.size
      clear hz hN hlt hk
      by_cases hbig : 8000000 < z
      · have d2 : decide ((8000000 : Int) < (z : Int)) = true := by simp; omega
        clear hbig
        go_wp2_with fail
        go_ret2
        refine ⟨_, _, [], rfl, World.ownsRow_nil _ _ _ _, hS.out, ?_⟩
        unfold packS
        rw [if_neg (by rw [hl.out]; omega), if_neg (by rw [HNA.out]; simp), HSZ.out, if_pos (by simp at d2; omega)]
      · have d2 : decide ((8000000 : Int) < (z : Int)) = false := by simp; omega
        have HZ := Lib.hid (Nat.le_of_not_lt hbig)
        clear hbig
        obtain ⟨i0, hi0, hi1, hi2, hi3⟩ := info_parts byte_info
        go_wp2_with (with_reducible refine wpList_make_own _ rfl (.const (.int .i64 0)) (.tmp 37) 26 rfl w.heap.size 5 i0 _ 1 Tryd.underlying26 hi0 hi1 hi2 .i64 .i64 (z : Int) z rfl rfl rfl (by rw [hi3]; have := HZ.out; omega) (by unfold maxLen; have := HZ.out; omega) hsw ?_; intro w3 ho3 hg3)
        have HO3 : Hid (OwnBys w3 w.heap.size (.slice (some ⟨wr.heap.size, 0, none⟩) (sizeK l 0) z) (packK l 0)) := ho3
        have HS3 := Lib.hid (hS.out.grown hg3 hsw (fun k hk => by cases hk))
        clear ho3 hg3 hi0 hi1 hi2 hi3 d2
        go_loopw [7, 41] (fun v i wr => ∃ (j : Nat) (A7 : Option Addr) (c7 : Nat), j ≤ k ∧ i = .int .i64 j ∧ v = .slice A7 (sizeK l j) c7 ∧ Hid (OwnBys wr w.heap.size (.slice A7 (sizeK l j) c7) (packK l j)) ∧ Hid (Below w.heap.size w wr)) (fun _ i _ => k - (intOf i).toNat)
        case atStart => exact ⟨0, _, _, Nat.zero_le _, rfl, rfl, HO3, HS3⟩
        case round =>
          obtain ⟨j, A7, c7, hj, rfl, rfl, hO, hS⟩ := hrel
          by_cases hjl : j < k
          · obtain ⟨bA, oA, rfl, hb, k1, A5, c5, k2, -, -, hby⟩ := (hh.out.below (hS.out.mono hB) (Nat.le_refl _)).ck hjl
            have hkl : j < l.length := by rw [hl.out]; exact hjl
            have HPK := Lib.hid (packK_succ hkl)
            have HSJ : Hid (sizeK l (j + 1) = sizeK l j + (8 + (ckOf l j).2.length + (ckOf l j).2.length % 2)) := sizeK_succ hkl
            have hz1 : sizeK l (j + 1) ≤ 8000000 := Nat.le_trans (HMONO.out (j + 1)) (by rw [HSZ.out]; exact HZ.out)
            have H4 := Lib.hid (nameB_four (namesB_at hkl HNA.out))
            obtain ⟨d, hd'⟩ : ∃ d, ckOf l j = d := ⟨_, rfl⟩
            rw [hd'] at k1 k2 HSJ HPK H4 hby
            obtain ⟨nm, dt⟩ := d
            dsimp only at k1 k2 HSJ HPK H4 hby
            obtain ⟨s, hs⟩ : ∃ s, ByteArray.mk nm.toArray = s := ⟨_, rfl⟩
            have HS := Lib.hid hs
            unfold strOf at k1
            rw [hs] at k1
            obtain ⟨m, hm⟩ : ∃ m, dt.length = m := ⟨_, rfl⟩
            have HM := Lib.hid hm
            rw [hm] at k2 HSJ hby
            obtain ⟨L, hL⟩ : ∃ L, sizeK l j = L := ⟨_, rfl⟩
            rw [hL] at HSJ hO ⊢
            obtain ⟨acc, hacc⟩ : ∃ acc, packK l j = acc := ⟨_, rfl⟩
            rw [hacc] at HPK hO
            have hbd : L + (8 + m + m % 2) ≤ 8000000 := by rw [← HSJ.out]; exact hz1
            have HBY := Lib.hid (hby.below (Below.refl B wr) (Nat.le_refl _))
            have hk0 : (0 : Int) ≤ (j : Int) := by omega
            have hkn : (j : Int) < (k : Int) := by omega
            have hsw := hS.out.size
            have hA7 := fun k hk => own_lt_by hO.out k hk
            obtain ⟨X, hX⟩ : ∃ X, X = wr.alloc (.cells #[.string s, .slice A5 m c5] 42) := ⟨_, rfl⟩
            have hXs : X.heap.size = wr.heap.size + 1 := by rw [hX]; simp
            have hXc : X.cell? ⟨wr.heap.size, 1, none⟩ = some (.slice A5 m c5) := by rw [hX]; simp [go_sem]
            have hXc0 : X.cell? ⟨wr.heap.size, 0, none⟩ = some (.string s) := by rw [hX]; simp [go_sem]
            have HOX : Hid (OwnBys X w.heap.size (.slice A7 L c7) acc) := by rw [hX]; exact World.ownsRow.alloc hO.out _
            have HSX : Hid (Below w.heap.size w X) := by rw [hX]; exact hS.out.alloc hsw _
            have HA7 : Hid (some wr.heap.size ≠ blkA A7) := fun e => by have := (hA7 _ e.symm).2; omega
            obtain ⟨gx, hgx⟩ : ∃ gx, gx = wr.heap.size := ⟨_, rfl⟩
            have HBX : Hid (BysAt X B A5 m dt) := by
              show BysAt X B A5 m dt
              rw [hX]
              exact HBY.out.below ((Below.refl B wr).alloc (Nat.le_trans hB hsw) _) (Nat.le_refl _)
            clear hd' hs hm hL hacc hz1 hby hjl hkl hA7
            have hbase : w.heap.size ≤ X.heap.size := by omega
            by_cases hodd : m % 2 = 1
            · have d5 : decide ((0 : Int) < (m : Int) % 2) = true := by simp; omega
              have HPAD : Hid (padB m = [0]) := by show _ = _; unfold padB; rw [if_pos hodd]
              clear hodd
              go_upto_region 17 with (fail)
              rw [← hX, ← hgx]
              rw [← hgx] at hXs hXc hXc0 HA7
              clear hX hgx k1 k2 HBY hsw hO hS
              have HB : Hid (BxAt w w.heap.size B gx A5 m c5 dt X A7 L c7 acc) := ⟨HSX.out, by omega, hXc, HA7.out, HBX.out, HOX.out, hbase, hB⟩
              clear hXs hXc HA7 HBX HOX HSX hbase
              go_wp2_with (with_reducible refine wpList_app_str rfl (.tmp 45) (.tmp 47) rfl w.heap.size A7 L c7 acc rfl HB.out.own nm 4 s H4 HS rfl (by omega) HB.out.bs ?_; intro A8 c8 w8 ho8 hg8; have HB8 := Lib.hid (HB.out.step hg8 ho8); have e8 := HB8.out.c1; clear ho8 hg8 HB hXc0)
              refine (PUT_any w.heap.size A8 (L + 4) c8 (acc ++ nm) m 4 (by omega) (by omega) (by omega) (by omega) _ HB8.out.bs HB8.out.own).mono ?_
              rintro e w9 ⟨A9, n9, c9, rfl, ho9, hg9⟩
              obtain rfl : n9 = L + 8 := by
                have h1 := own_len_by ho9
                have h2 := own_len_by HB8.out.own
                rw [List.length_append, leZ_length] at h1
                omega
              have HB9 := Lib.hid (HB8.out.step hg9 ho9)
              have e9 := HB9.out.c1
              clear ho9 hg9 HB8 e8
              go_wp2_with (first | (with_reducible refine wpList_app_bys rfl (.tmp 54) (.tmp 56) rfl w.heap.size A9 (L + 8) c9 (acc ++ nm ++ leZ m 4) rfl HB9.out.own B A5 m c5 dt rfl HB9.out.by_ (by omega) HB9.out.bs ?_; intro A10 c10 w10 ho10 hg10; have HB10 := Lib.hid (HB9.out.step hg10 ho10); have e10 := HB10.out.c1; clear ho10 hg10 HB9 e9) | (with_reducible refine wpList_push_byte rfl (.tmp 63) (.tmp 64) rfl w.heap.size A10 (L + 8 + m) c10 _ 0 0 rfl w10.heap.size rfl rfl rfl HB10.out.own (by omega) HB10.out.bs ?_; intro g11 c11 w11 ho11 hg11; have HB11 := Lib.hid (HB10.out.step hg11 ho11); clear ho11 hg11 HB10 e10))
              have HFin : Hid (OwnBys w11 w.heap.size (.slice (some ⟨g11, 0, none⟩) (sizeK l (j + 1)) c11) (packK l (j + 1))) := by
                show OwnBys _ _ _ _
                have h1 := HB11.out.own
                have e1 : L + 8 + m + 1 = sizeK l (j + 1) := by rw [HSJ.out]; simp at d5; omega
                rw [e1] at h1
                rw [HPK.out]
                unfold pack1
                dsimp only
                rw [HM.out, HPAD.out]
                simpa only [List.append_assoc] using h1
              have hfn : L + 8 + m + 1 = sizeK l (j + 1) := by rw [HSJ.out]; simp at d5; omega
              go_roundw
              case rel => exact ⟨j + 1, _, _, by omega, by go_num, by rw [hfn], HFin, Lib.hid HB11.out.below⟩
              case measure => simp [intOf]; omega
            · have d5 : decide ((0 : Int) < (m : Int) % 2) = false := by simp; omega
              have HPAD : Hid (padB m = []) := by show _ = _; unfold padB; rw [if_neg hodd]
              clear hodd
              go_upto_region 17 with (fail)
              rw [← hX, ← hgx]
              rw [← hgx] at hXs hXc hXc0 HA7
              clear hX hgx k1 k2 HBY hsw hO hS
              have HB : Hid (BxAt w w.heap.size B gx A5 m c5 dt X A7 L c7 acc) := ⟨HSX.out, by omega, hXc, HA7.out, HBX.out, HOX.out, hbase, hB⟩
              clear hXs hXc HA7 HBX HOX HSX hbase
              go_wp2_with (with_reducible refine wpList_app_str rfl (.tmp 45) (.tmp 47) rfl w.heap.size A7 L c7 acc rfl HB.out.own nm 4 s H4 HS rfl (by omega) HB.out.bs ?_; intro A8 c8 w8 ho8 hg8; have HB8 := Lib.hid (HB.out.step hg8 ho8); have e8 := HB8.out.c1; clear ho8 hg8 HB hXc0)
              refine (PUT_any w.heap.size A8 (L + 4) c8 (acc ++ nm) m 4 (by omega) (by omega) (by omega) (by omega) _ HB8.out.bs HB8.out.own).mono ?_
              rintro e w9 ⟨A9, n9, c9, rfl, ho9, hg9⟩
              obtain rfl : n9 = L + 8 := by
                have h1 := own_len_by ho9
                have h2 := own_len_by HB8.out.own
                rw [List.length_append, leZ_length] at h1
                omega
              have HB9 := Lib.hid (HB8.out.step hg9 ho9)
              have e9 := HB9.out.c1
              clear ho9 hg9 HB8 e8
              go_wp2_with (first | (with_reducible refine wpList_app_bys rfl (.tmp 54) (.tmp 56) rfl w.heap.size A9 (L + 8) c9 (acc ++ nm ++ leZ m 4) rfl HB9.out.own B A5 m c5 dt rfl HB9.out.by_ (by omega) HB9.out.bs ?_; intro A10 c10 w10 ho10 hg10; have HB10 := Lib.hid (HB9.out.step hg10 ho10); have e10 := HB10.out.c1; clear ho10 hg10 HB9 e9))
              have HFin : Hid (OwnBys w10 w.heap.size (.slice A10 (sizeK l (j + 1)) c10) (packK l (j + 1))) := by
                show OwnBys _ _ _ _
                have h1 := HB10.out.own
                have e1 : L + 8 + m = sizeK l (j + 1) := by rw [HSJ.out]; simp at d5; omega
                rw [e1] at h1
                rw [HPK.out]
                unfold pack1
                dsimp only
                rw [HM.out, HPAD.out, List.append_nil]
                simpa only [List.append_assoc] using h1
              have hfn : L + 8 + m = sizeK l (j + 1) := by rw [HSJ.out]; simp at d5; omega
              go_roundw
              case rel => exact ⟨j + 1, _, _, by omega, by go_num, by rw [hfn], HFin, Lib.hid HB10.out.below⟩
              case measure => simp [intOf]; omega
          · obtain rfl : j = k := by omega
            go_wp2_with fail
            go_ret2
            refine ⟨_, _, packK l j, rfl, hO.out, hS.out, ?_⟩
            unfold packS
            rw [if_neg (by rw [hl.out]; omega), if_neg (by rw [HNA.out]; simp), if_neg (by rw [HSZ.out]; have := HZ.out; omega), hl.out]
theorem PACK_any (A : Option Addr) (n c : Nat) (l : List Ck) (hd : Hid (∀ c ∈ l, c.2.length ≤ 140737488351232)) (hc9 : n ≤ c ∧ c ≤ maxLen) (w : World) (B : Nat) (hB : B ≤ w.heap.size) (hh : Hid (CksAt w B A n l)) :
    Calls Tryd.prog 18 #[.slice A n c] w fun e w' => ∃ v, e = .returned (.tuple #[v, .int .i64 (packS l).2]) ∧ OwnBys w' w.heap.size v (packS l).1 ∧ Below w.heap.size w w' := by
  by_cases hn : n ≤ 1000
  · refine (PACK_ok A n c l hn hd hc9 w B hB hh).mono fun e w' ⟨v, f, bs, h1, h2, h3, h4⟩ => ?_
    rw [← h4]
    exact ⟨v, h1, h2, h3⟩
  · have hl := hh.out.1
    have hp : packS l = ([], 2) := by unfold packS; rw [if_pos (by omega)]
    rw [hp]
    have d1 : decide ((1000 : Int) < (n : Int)) = true := by simp; omega
    clear hn hl hp hd hc9 hh
    go_enter Tryd.func18, Tryd.ntmps18
    go_wp2_with fail
    go_ret2
    exact ⟨_, rfl, World.ownsRow_nil _ _ _ _, Below.refl _ _⟩
end Go.Proofs.YtlnjildkdmeflaaDoor
