/- Gain, the document's. -/
import Derived.Test.YtnhmhjhfoonakaaGreatDoorGrd
import Derived.Test.YtnhmhjhfoonakaaGreatDoorWh
import Derived.Test.YtnhmhjhfoonakaaGreatDoorYr
import Derived.Test.YtnhmhjhfoonakaaGreatDoorRq
import Derived.Test.YtnhmhjhfoonakaaGreatDoorRr
import Derived.Test.YtnhmhjhfoonakaaGreatDoorWc
import Derived.Test.YtnhmhjhfoonakaaGreatDoorWb
import Derived.Deep.RegionHeld3
import Derived.Deep.DeepCutAuto
set_option linter.unusedSimpArgs false
set_option linter.unusedVariables false
namespace Go.Proofs.YtnhmhjhfoonakaaGreatDoor
open Go.RowKit Go.Dw
attribute [local go_sem ↓] Go.wp_at_zero Go.wp_at_succ
theorem gn_bd (q : Rat) {r : Int} {xss : List (List Int)} (hok : OkS r xss) (k j : Nat) (hk : k < xss.length) : 0 ≤ stR (gnU q) (stS (gnU q) 0 (xss.take k)) ((rowOf xss k).take j) ∧ stR (gnU q) (stS (gnU q) 0 (xss.take k)) ((rowOf xss k).take j) ≤ 100000000 := by
  have h := tm_G q hok k j hk
  have h1 := (tm_stR q ((rowOf xss k).take j) (stS (tmU q) (0, 0) (xss.take k))).2.2.2
  have h2 := (tm_stS q (len0 xss) (xss.take k) (0, 0) (fun t ht => (hok.rows t (List.mem_of_mem_take ht)).1)).2.2.2
  dsimp only at h2
  rw [h1, h2] at h
  exact ⟨h.1, h.2.1⟩
theorem map_row {f : Int → Int} {xss : List (List Int)} {k : Nat} (hk : k < xss.length) : rowOf (xss.map (List.map f)) k = (rowOf xss k).map f := by
  simp [rowOf, List.getD, hk]
theorem map_el {f : Int → Int} {xss : List (List Int)} {k j : Nat} (hk : k < xss.length) (hj : j < (rowOf xss k).length) : elOf (rowOf (xss.map (List.map f)) k) j = f (elOf (rowOf xss k) j) := by
  rw [map_row hk]; simp [elOf, List.getD, hj]
set_option maxRecDepth 100000 in
set_option maxHeartbeats 4000000 in
theorem RGAIN_ok (r : Int) (ad : Addr) (n c : Nat) (S T : ByteArray) (q : Rat) (hrt : Rt S T q) (xss : List (List Int)) (hok : Hid (OkS r xss)) (hc : Hid (chkS r xss = 0)) (w : World) (htab : Hid (TabAt w)) (B : Nat) (hB : B ≤ w.heap.size) (hh : Hid (RowsAt w B (some ad) n xss)) :
    Calls Tryz.prog 7 #[.agg #[.int .i64 r, .slice (some ad) n c], .agg #[.string S, .string T]] w (OutS3 w r (xss.map (List.map (gnV q))) (stS (gnU q) 0 xss) 0) := by
  have hl := Lib.hid hh.out.1
  have hn16 : n ≤ 16 := by have := hok.out.few; have := hl.out; omega
  have hn0 : 0 < n := by have := hok.out.some; have := hl.out; omega
  have hm := hok.out.long
  have hq : (chkS r xss != 0) = false := by rw [hc.out]; rfl
  have hck : chkQ S T = 0 := hrt.chk
  have hq2 : (chkQ S T != 0) = false := by rw [hck]; rfl
  have hsz2 := hrt.size
  have HRT := Lib.hid hrt
  go_enter Tryz.func7, Tryz.ntmps7
  go_wp2_with fail
  refine calls_later (w.heap.size + 3) ?_
  intro W hW hsW
  obtain ⟨hcW, hfW⟩ := bcell hW
  simp only [World.size_alloc] at hsW
  have hbW : Below w.heap.size w W := ((((Below.refl _ w).alloc (Nat.le_refl _) _).alloc (by simp) _).alloc (by simp; omega) _).trans (hW.mono (by omega))
  go_wp2_with fail
  refine (RCHECK_any r (some ad) n c xss _ B (by omega) (hh.out.below hbW hB)).mono ?_
  rintro e w0 ⟨rfl, hb0⟩
  have hz0 := pcell (hb0.mono hsW)
  go_wp2_with fail
  refine (RCHECKRATIO_any S T (by unfold maxLen; omega) (by unfold maxLen; omega) _).mono ?_
  rintro e wk ⟨rfl, hb00⟩
  have hbk : Below W.heap.size W wk := hb0.trans (hb00.mono hb0.size)
  have hzk := pcell (hbk.mono hsW)
  clear hb0 hz0 hb00
  go_upto_region 7 with (fail)
  have hbS0 : Below (w.heap.size + 3) W wk := hbk.mono hsW
  go_cut [9, 10] (fun s9 s10 wx => ∃ (g : Nat) (V : Value) (rows : List Value), s9 = .pointer (some ⟨g, 0, none⟩) ∧ s10 = .int .i64 0 ∧ Hid (wx.heap[g]? = some (.cells #[.int .i64 r, V] 24 (0, 0))) ∧ Hid (OwnRowsL wx (w.heap.size + 3) V (zeroS n (len0 xss)) rows) ∧ Hid (Below (w.heap.size + 3) W wx) ∧ w.heap.size + 3 ≤ g)
  case first =>
    go_region_held3 (fun w' => Below (w.heap.size + 3) W w' ∧ ∀ z : Addr, z.block < w.heap.size + 3 → w'.cell? z = W.cell? z)
      ((refine (fun h => ⟨h, pcell h⟩) ?_; repeat (first | assumption | exact Below.refl _ _ | (refine Below.drew ?_) | (refine Below.alloc ?_ (by first | omega | (simp; omega) | exact Nat.le_trans hsW (Below.size (by assumption)) | (simp only [World.size_drew, World.size_alloc]; exact Nat.le_trans hsW (Nat.le_succ_of_le (Below.size (by assumption))))) _) | (refine Below.setCell ?_ (by first | omega | (simp; omega) | exact Nat.le_trans hsW (Below.size (by assumption))) _))))
      (first
        | (go_at_call 21; refine (RLONG_any r (some ad) n c xss _ B (Below.ge ‹Below (w.heap.size + 3) W _ ∧ _› hsW (by omega)) (hh.out.below (Below.via hbW ‹Below (w.heap.size + 3) W _ ∧ _› (by omega)) hB) hn0).mono ?_; rintro e w1 ⟨rfl, hb1⟩; have hbS := Below.next (‹Below (w.heap.size + 3) W _ ∧ _›).1 hsW hb1; have hz1 := pcell hb1; have hy1 := fun b o => (bcell hb1).2 b o; have hs1 := hb1.size; simp only [World.size_alloc, World.size_drew, Nat.add_one_le_iff] at hs1)
        | (go_at_call 20; refine (REMPTY_any r n (len0 xss) (by omega) (by omega) _).mono ?_; rintro e w2 ⟨v2, rfl, ho2, hb2⟩; obtain ⟨A2, c2, rfl, _, _⟩ := ho2.form; have hbS2 := Below.next (‹Below (w.heap.size + 3) W _ ∧ _›).1 hsW hb2; have hz2 := pcell hb2; have hy2 := fun b o => (bcell hb2).2 b o; have hs2 := hb2.size; (try simp only [World.size_alloc, Nat.add_one_le_iff] at hs2)))
    all_goals (go_wp2_with fail; go_meet)
    · obtain ⟨rows, hL2⟩ := ho2
      have hx1 : w.heap.size + 3 ≤ w1.heap.size := Nat.le_trans hsW hbS.size
      exact ⟨w2.heap.size, _, rows, rfl, rfl, heap_alloc_new _ _, (hL2.alloc _).base hx1, hbS2.alloc (by omega) _, by omega⟩
    · obtain ⟨rows, hL2⟩ := ho2
      have hx1 : w.heap.size + 3 ≤ w1.heap.size := Nat.le_trans hsW hbS.size
      have hb2x := (hb2.block w1.heap.size (by simp)).trans (heap_alloc_new w1 (.cells #[.int .i64 0, .slice none 0 0] 24))
      exact ⟨w1.heap.size, _, rows, rfl, rfl, heap_set2 hb2x, (hL2.base (by simp; omega)).set2_far hb2x (by decide) (by decide) _ _, set2_below hbS2 hx1, hx1⟩
    · obtain ⟨rows, hL2⟩ := ho2
      have hx0 : w.heap.size + 3 ≤ wk.heap.size := Nat.le_trans hsW hbk.size
      have hx1 : w.heap.size + 3 ≤ w1.heap.size := Nat.le_trans hsW hbS.size
      have hb2x := (hb2.block wk.heap.size (by have := hb1.size; simp at this; omega)).trans ((hb1.block wk.heap.size (by simp)).trans (heap_alloc_new wk (.cells #[.int .i64 0, .slice none 0 0] 24)))
      exact ⟨wk.heap.size, _, rows, rfl, rfl, heap_set2 hb2x, (hL2.base hx1).set2_far hb2x (by decide) (by decide) _ _, set2_below hbS2 hx0, hx0⟩
  case rest =>
    obtain ⟨g, V, rows, rfl, rfl, hbox, hL, hb, hg⟩ := hcut
    have HY : Hid ((xss.map (List.map (gnV q))).length = n) := by show _ = _; rw [List.length_map]; exact hl.out
    have HYm : Hid (∀ a, a < (xss.map (List.map (gnV q))).length → (rowOf (xss.map (List.map (gnV q))) a).length = len0 xss) := fun a ha => by
      rw [List.length_map] at ha
      rw [map_row ha, List.length_map]; exact (hok.out.row ha).1
    obtain ⟨AV, cV, hVe, _, _⟩ := own_form hL.out.outer
    rw [zeroS_length] at hVe
    subst hVe
    obtain ⟨gv, hgv⟩ : ∃ gv, AV = some ⟨gv, 0, none⟩ := by
      have h1 := hL.out.outer
      rw [zeroS_length] at h1
      obtain ⟨gv, cap, e, _⟩ := own_slot h1 hn0
      exact ⟨gv, by injection e⟩
    subst hgv
    have HF0 : Hid (FillI (w.heap.size + 3) W g (.int .i64 r) gv n cV rows wc (partK (xss.map (List.map (gnV q))) (len0 xss) 0 0)) := ⟨hb.out, hbox.out, by rw [partK_start, HY.out]; exact hL.out, hg⟩
    clear hbox hL hb
    go_wp2_with fail
    go_loopw [10, 11] (fun s i wr => ∃ k : Nat, k ≤ n ∧ i = .int .i64 k ∧ s = .int .i64 (stS (gnU q) 0 (xss.take k)) ∧ Hid (FillI (w.heap.size + 3) W g (.int .i64 r) gv n cV rows wr (partK (xss.map (List.map (gnV q))) (len0 xss) k 0))) (fun _ i _ => n - (intOf i).toNat)
    case atStart => exact ⟨0, Nat.zero_le _, rfl, rfl, HF0.out⟩
    case round =>
      obtain ⟨k, hk, rfl, rfl, hF⟩ := hrel
      by_cases hlt : k < n
      · have hkx : Hid (k < xss.length) := by show _ < _; have := hl.out; omega
        obtain ⟨A', n', c', hadB, hcell0, hn', hc', hi⟩ := hh.out.row hlt
        obtain rfl : n' = len0 xss := hi.1.symm.trans (hok.out.row hkx.out).1
        have hi' := Lib.hid hi
        have HC0 := Lib.hid hcell0
        clear hi hcell0
        unfold maxLen at hc'
        have hzo := pcell hF.out.below
        have hk0' : (k : Int) < (n : Int) := by omega
        go_wp2_with fail
        clear hzo hk0'
        have hk0 : (0 : Int) ≤ (k : Int) := by omega
        have hkn : (k : Int) < (n : Int) := by omega
        obtain ⟨wo, hwo⟩ : ∃ wo : World, wo = wr := ⟨_, rfl⟩
        rw [← hwo] at hF ⊢
        clear hwo
        go_loopw [10, 12] (fun s i wi => ∃ j : Nat, j ≤ len0 xss ∧ i = .int .i64 j ∧ s = .int .i64 (stR (gnU q) (stS (gnU q) 0 (xss.take k)) ((rowOf xss k).take j)) ∧ Hid (FillI (w.heap.size + 3) W g (.int .i64 r) gv n cV rows wi (partK (xss.map (List.map (gnV q))) (len0 xss) k j))) (fun _ i _ => len0 xss - (intOf i).toNat)
        case atStart => exact ⟨0, Nat.zero_le _, rfl, rfl, hF.out⟩
        case round =>
          obtain ⟨j, hj, rfl, rfl, hi⟩ := hrel
          have hzi := pcell hi.out.below
          have hbi : Below B w wr := (hbW.mono hB).trans (hi.out.below.mono (show B ≤ w.heap.size + 3 by omega))
          have hsz : B ≤ wr.heap.size := Nat.le_trans (by omega) hi.out.below.size
          by_cases hjl : j < len0 xss
          · go_wp2_with fail
            refine (RLONG_any r _ n c xss _ B hsz (hh.out.below hbi (Nat.le_refl _)) hn0).mono ?_
            rintro e w4 ⟨rfl, hb4⟩
            have hi4 := Lib.hid (hi.out.next hsW hb4)
            have hb4B := (hbW.mono hB).trans (hi4.out.below.mono (show B ≤ w.heap.size + 3 by omega))
            clear hzi hbi hsz
            have hzd4 := pcell hi4.out.below
            have hcd4 := (hb4B.cell (p := ad.add k) (by rw [block_of_add]; omega)).trans HC0.out
            have hid4 := Lib.hid (hi'.out.below hb4B (Nat.le_refl _))
            obtain ⟨ad', rfl⟩ := hi'.out.addr (by omega)
            have hci4 := (hid4.out.at_ hjl).2
            obtain ⟨x1, x2⟩ := hok.out.el hkx.out hjl
            have HE : Hid (elOf (rowOf (xss.map (List.map (gnV q))) k) j = gnV q (elOf (rowOf xss k) j)) := map_el hkx.out (by rw [(hok.out.row hkx.out).1]; exact hjl)
            have HK : Hid (stR (gnU q) (stS (gnU q) 0 (xss.take k)) ((rowOf xss k).take (j + 1)) = gnU q (stR (gnU q) (stS (gnU q) 0 (xss.take k)) ((rowOf xss k).take j)) (elOf (rowOf xss k) j)) := stR_take (by rw [(hok.out.row hkx.out).1]; exact hjl)
            obtain ⟨x, hx⟩ : ∃ x, elOf (rowOf xss k) j = x := ⟨_, rfl⟩
            obtain ⟨s, hs⟩ : ∃ s, stR (gnU q) (stS (gnU q) 0 (xss.take k)) ((rowOf xss k).take j) = s := ⟨_, rfl⟩
            rw [hs, hx] at HK
            rw [hx] at hci4 x1 x2 HE
            rw [hs]
            have HS9 := Lib.hid hs
            have HX9 := Lib.hid hx
            clear hs hx
            have hYk : (rowOf (partK (xss.map (List.map (gnV q))) (len0 xss) k j) k).length = len0 xss := partK_len (by rw [HY.out]; exact hlt) (HYm.out k (by rw [HY.out]; exact hlt)) hj
            obtain ⟨b', cap, hrk, hcap1, hcap2, -, hn3, hc3⟩ := hi4.out.slot (by rw [partK_length, HY.out]; exact hlt) hYk (by omega)
            have HR := Lib.hid hrk
            clear hrk hYk
            have hj0 : (0 : Int) ≤ (j : Int) := by omega
            have hjn : (j : Int) < (len0 xss : Int) := by omega
            have hgb := gn_bd q hok.out k j hkx.out
            rw [HS9.out] at hgb
            obtain ⟨g1, g2⟩ := hgb
            have hn01 := gnN_bd q x
            have HSS : Hid (∀ x9 : World, Below (w.heap.size + 3) W x9 → x9.cell? ⟨w.heap.size, 1, none⟩ = some (.slice (some ad) n c) ∧ x9.cell? (ad.add k) = some (.slice (some ad') (len0 xss) c') ∧ x9.cell? (ad'.add j) = some (.int .i64 x) ∧ x9.cell? ⟨w.heap.size + 1, 0, none⟩ = some (.string S) ∧ x9.cell? ⟨w.heap.size + 1, 1, none⟩ = some (.string T)) := fun x9 hb9 => by
              have hz9 := pcell hb9
              have hb9B := (hbW.mono hB).trans (hb9.mono (show B ≤ w.heap.size + 3 by omega))
              refine ⟨by rw [hz9 _ (by simp <;> omega), hcW _ _ (by omega)]; simp [go_sem], (hb9B.cell (p := ad.add k) (by rw [block_of_add]; omega)).trans HC0.out, by rw [← HX9.out]; exact ((hi'.out.below hb9B (Nat.le_refl _)).at_ hjl).2, by rw [hz9 _ (by simp <;> omega), hcW _ _ (by omega)]; simp [go_sem], by rw [hz9 _ (by simp <;> omega), hcW _ _ (by omega)]; simp [go_sem]⟩
            have HTX := Lib.hid (htab.out.below ((hbW.trans (hi4.out.below.mono (show w.heap.size ≤ w.heap.size + 3 by omega)))))
            clear hci4 hcd4 hid4 hb4B
            go_wp2_with fail
            obtain ⟨X, rfl⟩ : ∃ Wx : World, Wx = w4 := ⟨_, rfl⟩
            refine wp_region_text 16 (fun x9 => x9.cell? ⟨w.heap.size, 1, none⟩ = some (.slice (some ad) n c) ∧ x9.cell? (ad.add k) = some (.slice (some ad') (len0 xss) c') ∧ x9.cell? (ad'.add j) = some (.int .i64 x) ∧ x9.cell? ⟨w.heap.size + 1, 0, none⟩ = some (.string S) ∧ x9.cell? ⟨w.heap.size + 1, 1, none⟩ = some (.string T)) (by kernel_rfl) (by kernel_rfl) ?_
            have hS := HSS.out X.drew hi4.out.below.drew
            refine HT.take (i := 0) (oi := _) (v := ?_) rfl (by kernel_rfl) (by kernel_rfl) (by decide) (fun _ _ _ h => h) (Or.inl ⟨by rfl, ?_⟩) hS ?_
            rotate_left
            · intro wz
              go_simp
              try with_reducible rfl
            simp only [List.getElem_toArray, List.getElem_cons_succ, List.getElem_cons_zero, Act.put, List.setIfInBounds_toArray, List.set_cons_zero, List.set_cons_succ]
            refine HT.load (i := 1) (oi := _) (v := ?_) rfl (by kernel_rfl) (by kernel_rfl) (by decide) (fun _ _ _ h => h) (by kernel_rfl) (Or.inl ⟨by rfl, ?_⟩) hS ?_
            rotate_left
            · intro wz hwz
              try dsimp only at hwz
              go_simp
              try with_reducible rfl
            simp only [List.getElem_toArray, List.getElem_cons_succ, List.getElem_cons_zero, Act.put, List.setIfInBounds_toArray, List.set_cons_zero, List.set_cons_succ]
            refine HT.take (i := 2) (oi := _) (v := ?_) rfl (by kernel_rfl) (by kernel_rfl) (by decide) (fun _ _ _ h => h) (Or.inl ⟨by rfl, ?_⟩) hS ?_
            rotate_left
            · intro wz
              go_simp
              try with_reducible rfl
            simp only [List.getElem_toArray, List.getElem_cons_succ, List.getElem_cons_zero, Act.put, List.setIfInBounds_toArray, List.set_cons_zero, List.set_cons_succ]
            refine HT.take (i := 3) (oi := _) (v := ?_) rfl (by kernel_rfl) (by kernel_rfl) (by decide) (fun _ _ _ h => h) (Or.inl ⟨by rfl, ?_⟩) hS ?_
            rotate_left
            · intro wz
              go_simp
              try with_reducible rfl
            simp only [List.getElem_toArray, List.getElem_cons_succ, List.getElem_cons_zero, Act.put, List.setIfInBounds_toArray, List.set_cons_zero, List.set_cons_succ]
            refine HT.load (i := 4) (oi := _) (v := ?_) rfl (by kernel_rfl) (by kernel_rfl) (by decide) (fun _ _ _ h => h) (by kernel_rfl) (Or.inl ⟨by rfl, ?_⟩) hS ?_
            rotate_left
            · intro wz hwz
              try dsimp only at hwz
              go_simp
              try with_reducible rfl
            simp only [List.getElem_toArray, List.getElem_cons_succ, List.getElem_cons_zero, Act.put, List.setIfInBounds_toArray, List.set_cons_zero, List.set_cons_succ]
            refine HT.take (i := 5) (oi := _) (v := ?_) rfl (by kernel_rfl) (by kernel_rfl) (by decide) (fun _ _ _ h => h) (Or.inl ⟨by rfl, ?_⟩) hS ?_
            rotate_left
            · intro wz
              go_simp
              try with_reducible rfl
            simp only [List.getElem_toArray, List.getElem_cons_succ, List.getElem_cons_zero, Act.put, List.setIfInBounds_toArray, List.set_cons_zero, List.set_cons_succ]
            refine HT.take (i := 6) (oi := _) (v := ?_) rfl (by kernel_rfl) (by kernel_rfl) (by decide) (fun _ _ _ h => h) (Or.inl ⟨by rfl, ?_⟩) hS ?_
            rotate_left
            · intro wz
              go_simp
              try with_reducible rfl
            simp only [List.getElem_toArray, List.getElem_cons_succ, List.getElem_cons_zero, Act.put, List.setIfInBounds_toArray, List.set_cons_zero, List.set_cons_succ]
            refine HT.load (i := 7) (oi := _) (v := ?_) rfl (by kernel_rfl) (by kernel_rfl) (by decide) (fun _ _ _ h => h) (by kernel_rfl) (Or.inl ⟨by rfl, ?_⟩) hS ?_
            rotate_left
            · intro wz hwz
              try dsimp only at hwz
              go_simp
              try with_reducible rfl
            simp only [List.getElem_toArray, List.getElem_cons_succ, List.getElem_cons_zero, Act.put, List.setIfInBounds_toArray, List.set_cons_zero, List.set_cons_succ]
            refine HT.load (i := 9) (oi := _) (v := ?_) rfl (by kernel_rfl) (by kernel_rfl) (by decide) (fun _ _ _ h => h) (by kernel_rfl) (Or.inl ⟨by rfl, ?_⟩) hS ?_
            rotate_left
            · intro wz hwz
              try dsimp only at hwz
              go_simp
              try with_reducible rfl
            simp only [List.getElem_toArray, List.getElem_cons_succ, List.getElem_cons_zero, Act.put, List.setIfInBounds_toArray, List.set_cons_zero, List.set_cons_succ]
            refine HT.one (i := 8) (o := _) rfl (by kernel_rfl) (by decide) (by rfl) ?_
            intro K hK
            go_simp
            refine (RINT_any x (by omega) (by omega) _ (Lib.hid (HTX.out.below (Below.refl X.heap.size X).drew))).mono ?_
            rintro e w5 ⟨ng1, A1, n1, c1, D1, m1, e1, rfl, h1, k1, l1, hb1⟩
            replace hb1 : Below X.heap.size X w5 := below_undrew hb1
            have H1 := Lib.hid h1
            have HB1 := Lib.hid hb1
            have hS9 := HSS.out w5 (Below.next hi4.out.below hsW HB1.out)
            refine hK.out _ _ hS9 ?_
            clear hK K hS hb1 h1
            have hS := hS9
            clear hS9
            try simp only [List.getElem_toArray, List.getElem_cons_succ, List.getElem_cons_zero, Act.put, List.setIfInBounds_toArray, List.set_cons_zero, List.set_cons_succ]
            refine HT.one (i := 10) (o := _) rfl (by kernel_rfl) (by decide) (by rfl) ?_
            intro K hK
            go_simp
            refine (ROF_ok HRT.out _).mono ?_
            rintro e w6 ⟨ng2, A2, n2, c2, D2, m2, e2, rfl, h2, k2, l2, hb2⟩
            have H2 := Lib.hid h2
            have H1' := Lib.hid (H1.out.to hb2 (Nat.le_refl _) hb2.size)
            have HB2 := Lib.hid (HB1.out.trans (hb2.mono HB1.out.size))
            have hS9 := HSS.out w6 (Below.next hi4.out.below hsW HB2.out)
            refine hK.out _ _ hS9 ?_
            clear hK K hS hb2 h2 H1
            have hS := hS9
            clear hS9
            try simp only [List.getElem_toArray, List.getElem_cons_succ, List.getElem_cons_zero, Act.put, List.setIfInBounds_toArray, List.set_cons_zero, List.set_cons_succ]
            refine HT.one (i := 11) (o := _) rfl (by kernel_rfl) (by decide) (by rfl) ?_
            intro K hK
            go_simp
            refine (RNTIMES_any ng1 ng2 A1 A2 D1 D2 n1 c1 m1 e1 n2 c2 m2 e2 (x : Rat) q (by omega) (by omega) (by omega) (by omega) _ w6.heap.size (Nat.le_refl _) H1' H2).mono ?_
            rintro e w7 ⟨ng3, A3, n3, c3, D3, m3, e3, rfl, h3, k3, l3, hb3⟩
            have H3 := Lib.hid h3
            have HB3 := Lib.hid (HB2.out.trans (hb3.mono HB2.out.size))
            have hS9 := HSS.out w7 (Below.next hi4.out.below hsW HB3.out)
            refine hK.out _ _ hS9 ?_
            clear hK K hS hb3 h3 H1' H2
            have hS := hS9
            clear hS9
            try simp only [List.getElem_toArray, List.getElem_cons_succ, List.getElem_cons_zero, Act.put, List.setIfInBounds_toArray, List.set_cons_zero, List.set_cons_succ]
            refine HT.one (i := 12) (o := _) rfl (by kernel_rfl) (by decide) (by rfl) ?_
            intro K hK
            go_simp
            refine (RROUNDED2_any ng3 A3 D3 n3 c3 m3 e3 ((x : Rat) * q) (by omega) (by omega) _ (Lib.hid (HTX.out.below HB3.out)) w7.heap.size (Nat.le_refl _) H3).mono ?_
            rintro e w8 ⟨rfl, hb8⟩
            rw [show clipV (nearQ ((x : Rat) * q)) = gnV q x from rfl, show clipN (nearQ ((x : Rat) * q)) = gnN q x from rfl]
            have HB8 := Lib.hid (HB3.out.trans (hb8.mono HB3.out.size))
            have hS9 := HSS.out w8 (Below.next hi4.out.below hsW HB8.out)
            refine hK.out _ _ hS9 ?_
            clear hK K hS hb8 H3
            have hS := hS9
            clear hS9
            try simp only [List.getElem_toArray, List.getElem_cons_succ, List.getElem_cons_zero, Act.put, List.setIfInBounds_toArray, List.set_cons_zero, List.set_cons_succ]
            refine HT.take (i := 13) (oi := _) (v := ?_) rfl (by kernel_rfl) (by kernel_rfl) (by decide) (fun _ _ _ h => h) (Or.inl ⟨by rfl, ?_⟩) hS ?_
            rotate_left
            · intro wz
              go_simp
              try with_reducible rfl
            simp only [List.getElem_toArray, List.getElem_cons_succ, List.getElem_cons_zero, Act.put, List.setIfInBounds_toArray, List.set_cons_zero, List.set_cons_succ]
            refine HT.take (i := 14) (oi := _) (v := ?_) rfl (by kernel_rfl) (by kernel_rfl) (by decide) (fun _ _ _ h => h) (Or.inl ⟨by rfl, ?_⟩) hS ?_
            rotate_left
            · intro wz
              go_simp
              try with_reducible rfl
            simp only [List.getElem_toArray, List.getElem_cons_succ, List.getElem_cons_zero, Act.put, List.setIfInBounds_toArray, List.set_cons_zero, List.set_cons_succ]
            refine HT.take (i := 15) (oi := _) (v := ?_) rfl (by kernel_rfl) (by kernel_rfl) (by decide) (fun _ _ _ h => h) (Or.inl ⟨by rfl, ?_⟩) hS ?_
            rotate_left
            · intro wz
              go_simp
              try with_reducible rfl
            simp only [List.getElem_toArray, List.getElem_cons_succ, List.getElem_cons_zero, Act.put, List.setIfInBounds_toArray, List.set_cons_zero, List.set_cons_succ]
            refine HT.done (by kernel_rfl) ?_
            clear hS
            simp only [List.drop_succ_cons, List.drop_zero]
            have hi8 := Lib.hid (hi4.out.next hsW HB8.out)
            have hS8 := hi8.out.cells HR.out
            obtain ⟨hS80, hS81⟩ := hS8
            obtain ⟨⟨vo, hvo⟩, hfz⟩ := hi8.out.elem HR.out hjl
            have HI9 := Lib.hid (hi8.out.put HR.out (by rw [HY.out]; exact hlt) (HYm.out k (by rw [HY.out]; exact hlt)) hjl HE.out)
            obtain ⟨gv9, hgv9⟩ : ∃ z, gnV q x = z := ⟨_, rfl⟩
            obtain ⟨gn9, hgn9⟩ : ∃ z, gnN q x = z := ⟨_, rfl⟩
            rw [hgv9] at HI9 ⊢
            rw [hgn9] at hn01 ⊢
            have HK9 : Hid (stR (gnU q) (stS (gnU q) 0 (xss.take k)) ((rowOf xss k).take (j + 1)) = s + gn9) := by show _ = _; rw [HK.out, ← hgn9]; rfl
            have hww := IntWalk.i64_in (s + gn9) (by omega)
            clear hgv9 hgn9
            go_wp2_with fail
            go_roundw
            case rel => exact ⟨j + 1, by omega, by go_num, by rw [HK9.out], HI9.out⟩
            case measure => simp [intOf]; omega
          · obtain rfl : j = len0 xss := by omega
            go_wp2_with fail
            refine (RLONG_any r _ n c xss _ B hsz (hh.out.below hbi (Nat.le_refl _)) hn0).mono ?_
            rintro e w4 ⟨rfl, hb4⟩
            have hi4 := Lib.hid (hi.out.next hsW hb4)
            clear hzi hbi hsz
            rw [List.take_of_length_le (l := rowOf xss k) (by rw [(hok.out.row hkx.out).1]; exact Nat.le_refl _), ← stS_take hkx.out]
            go_wp2_with fail
            go_roundw
            case rel =>
              refine ⟨k + 1, by omega, by go_num, rfl, ?_⟩
              have := hi4.out
              rw [partK_next HYm.out] at this
              exact this
            case measure => simp [intOf]; omega
      · obtain rfl : k = n := by omega
        have hzo := pcell hF.out.below
        have hcg0 := own_cell1 hF.out.box 0
        have hcg1 := own_cell1 hF.out.box 1
        simp at hcg0 hcg1
        have hcr0 : wr.cell? ⟨w.heap.size + 1 + 1, 0, none⟩ = some (.int .i64 0) := by rw [hzo _ (by simp), hcW _ _ (by simp)]; simp [go_sem]
        have hcr1 : wr.cell? ⟨w.heap.size + 1 + 1, 1, none⟩ = some (.slice none 0 0) := by rw [hzo _ (by simp), hcW _ _ (by simp)]; simp [go_sem]
        have hfr := fun b o h => ((bcell hF.out.below).2 b o h)
        rw [List.take_of_length_le (l := xss) (by rw [hl.out]; exact Nat.le_refl _)]
        go_wp2_with fail
        refine end_snd3 rfl rfl rfl hcr0 hcr1 ?_
        have hI9 := hF.out.own
        rw [partK_end HY.out] at hI9
        exact ⟨_, rfl, ⟨rows, ((hI9.set_below (p := ⟨w.heap.size + 1 + 1, 0, none⟩) (by simp) _).set_below (p := ⟨w.heap.size + 1 + 1, 1, none⟩) (by simp) _).base (show w.heap.size ≤ w.heap.size + 3 by omega)⟩, set2_below (hbW.trans (hF.out.below.mono (by omega))) (by omega)⟩
set_option maxHeartbeats 800000 in
theorem RGAIN_chk (r : Int) (A : Option Addr) (n c : Nat) (S T : ByteArray) (xss : List (List Int)) (hc : chkS r xss ≠ 0) (w : World) (B : Nat) (hB : B ≤ w.heap.size) (hh : Hid (RowsAt w B A n xss)) :
    Calls Tryz.prog 7 #[.agg #[.int .i64 r, .slice A n c], .agg #[.string S, .string T]] w (OutS3 w 0 [] 0 (chkS r xss)) := by
  have hq : (chkS r xss != 0) = true := by simpa using hc
  clear hc
  go_enter Tryz.func7, Tryz.ntmps7
  go_wp2_with fail
  refine calls_later (w.heap.size + 3) ?_
  intro W hW hsW
  obtain ⟨hcW, hfW⟩ := bcell hW
  simp only [World.size_alloc] at hsW
  have hbW : Below w.heap.size w W := ((((Below.refl _ w).alloc (Nat.le_refl _) _).alloc (by simp) _).alloc (by simp; omega) _).trans (hW.mono (by omega))
  go_wp2_with fail
  refine (RCHECK_any r A n c xss _ B (by omega) (hh.out.below hbW hB)).mono ?_
  rintro e w1 ⟨rfl, hb1⟩
  have hS1 : Below (w.heap.size + 3) W w1 := hb1.mono hsW
  have hz1 := pcell hS1
  have hy1 := (bcell hS1).2
  clear hb1
  go_wp2_with fail
  refine end_snd3 (o0 := .int .i64 0) (o1 := .slice none 0 0) rfl rfl rfl ?_ ?_ ?_
  · rw [hz1 _ (by simp), hcW _ _ (by simp)]; simp [go_sem]
  · rw [hz1 _ (by simp), hcW _ _ (by simp)]; simp [go_sem]
  · exact OutS3.err rfl (set2_below (hbW.trans (hS1.mono (by omega))) (by omega))
set_option maxHeartbeats 800000 in
theorem RGAIN_bad (r : Int) (A : Option Addr) (n c : Nat) (S T : ByteArray) (hs : S.size ≤ maxLen) (ht : T.size ≤ maxLen) (xss : List (List Int)) (hc : Hid (chkS r xss = 0)) (hd : chkQ S T ≠ 0) (w : World) (B : Nat) (hB : B ≤ w.heap.size) (hh : Hid (RowsAt w B A n xss)) :
    Calls Tryz.prog 7 #[.agg #[.int .i64 r, .slice A n c], .agg #[.string S, .string T]] w (OutS3 w 0 [] 0 (chkQ S T)) := by
  have hq : (chkS r xss != 0) = false := by rw [hc.out]; rfl
  have hq2 : (chkQ S T != 0) = true := by simpa using hd
  clear hd
  go_enter Tryz.func7, Tryz.ntmps7
  go_wp2_with fail
  refine calls_later (w.heap.size + 3) ?_
  intro W hW hsW
  obtain ⟨hcW, hfW⟩ := bcell hW
  simp only [World.size_alloc] at hsW
  have hbW : Below w.heap.size w W := ((((Below.refl _ w).alloc (Nat.le_refl _) _).alloc (by simp) _).alloc (by simp; omega) _).trans (hW.mono (by omega))
  go_wp2_with fail
  refine (RCHECK_any r A n c xss _ B (by omega) (hh.out.below hbW hB)).mono ?_
  rintro e w1 ⟨rfl, hb1⟩
  have hS1 : Below (w.heap.size + 3) W w1 := hb1.mono hsW
  have hz1 := pcell hS1
  clear hb1
  go_wp2_with fail
  refine (RCHECKRATIO_any S T hs ht _).mono ?_
  rintro e w2 ⟨rfl, hb2⟩
  have hS2 := Below.next hS1 hsW hb2
  clear hz1 hb2
  have hz2 := pcell hS2
  have hy2 := (bcell hS2).2
  go_wp2_with fail
  refine end_snd3 (o0 := .int .i64 0) (o1 := .slice none 0 0) rfl rfl rfl ?_ ?_ ?_
  · rw [hz2 _ (by simp), hcW _ _ (by simp)]; simp [go_sem]
  · rw [hz2 _ (by simp), hcW _ _ (by simp)]; simp [go_sem]
  · exact OutS3.err rfl (set2_below (hbW.trans (hS2.mono (by omega))) (by omega))
theorem RGAIN_any (r : Int) (A : Option Addr) (n c : Nat) (S T : ByteArray) (hs : S.size ≤ maxLen) (ht : T.size ≤ maxLen) (xss : List (List Int)) (w : World) (htab : Hid (TabAt w)) (B : Nat) (hB : B ≤ w.heap.size) (hh : RowsAt w B A n xss) :
    Calls Tryz.prog 7 #[.agg #[.int .i64 r, .slice A n c], .agg #[.string S, .string T]] w (OutS3 w (gainS r xss S T).1 (gainS r xss S T).2.1 (gainS r xss S T).2.2.1 (gainS r xss S T).2.2.2) := by
  unfold gainS
  by_cases hc : chkS r xss = 0
  · have hok := chkS_ok hc
    have hn : 0 < n := by have := hok.some; have := hh.1; omega
    obtain ⟨ad, rfl⟩ := hh.addr hn
    rw [if_neg (by simp [hc])]
    by_cases hd : chkQ S T = 0
    · rw [if_neg (by simp [hd])]
      exact RGAIN_ok r ad n c S T (valQ S T) (Rt.of hd) xss hok hc w htab B hB hh
    · rw [if_pos hd]; exact RGAIN_bad r (some ad) n c S T hs ht xss hc hd w B hB hh
  · rw [if_pos hc]; exact RGAIN_chk r A n c S T xss hc w B hB hh
end Go.Proofs.YtnhmhjhfoonakaaGreatDoor
