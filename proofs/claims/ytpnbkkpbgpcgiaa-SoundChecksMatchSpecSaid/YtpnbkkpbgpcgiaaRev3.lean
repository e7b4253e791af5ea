/- Reversed, the document's. -/
import Derived.Test.YtpnbkkpbgpcgiaaRev2
import Derived.Deep.RegionHeld3
import Derived.Deep.DeepCutAuto
set_option linter.unusedSimpArgs false
set_option linter.unusedVariables false
namespace Go.Proofs.Ytpnbkkpbgpcgiaa
open Go.RowKit Go.Dw
attribute [local go_sem ↓] Go.wp_at_zero Go.wp_at_succ
set_option maxHeartbeats 800000 in
theorem RREVERSED_chk (r : Int) (A : Option Addr) (n c : Nat) (xss : List (List Int)) (hc : chkS r xss ≠ 0) (w : World) (B : Nat) (hB : B ≤ w.heap.size) (hh : Hid (RowsAt w B A n xss)) :
    Calls Try.prog 36 #[.agg #[.int .i64 r, .slice A n c]] w (OutS w 0 [] (chkS r xss)) := by
  have hq : (chkS r xss != 0) = true := by simpa using hc
  clear hc
  go_enter Try.func36, Try.ntmps36
  go_wp2_with fail
  refine calls_later (w.heap.size + 2) ?_
  intro W hW hsW
  obtain ⟨hcW, hfW⟩ := bcell hW
  simp only [World.size_alloc] at hsW
  have hbW : Below w.heap.size w W := (((Below.refl _ w).alloc (Nat.le_refl _) _).alloc (by simp) _).trans (hW.mono (by omega))
  go_wp2_with (go_at_call 38; refine (RCHECK_any r A n c xss _ B (by omega) (hh.out.below hbW hB)).mono ?_; rintro e w1 ⟨rfl, hb1⟩; have hz1 := pcell (hb1.mono hsW); have hz2 := fun b o => (bcell (hb1.mono hsW)).2 b o)
  refine end_snd2 (o0 := .int .i64 0) (o1 := .slice none 0 0) rfl rfl rfl ?_ ?_ ?_
  · rw [hz1 _ (by simp), hcW _ _ (by simp)]; simp [go_sem]
  · rw [hz1 _ (by simp), hcW _ _ (by simp)]; simp [go_sem]
  · exact OutS.err rfl (set2_below (hbW.trans (hb1.mono (by omega))) (by omega))
set_option maxRecDepth 100000 in
set_option maxHeartbeats 4000000 in
theorem RREVERSED_ok (r : Int) (ad : Addr) (n c : Nat) (xss : List (List Int)) (hok : Hid (OkS r xss)) (hc : Hid (chkS r xss = 0)) (w : World) (B : Nat) (hB : B ≤ w.heap.size) (hh : Hid (RowsAt w B (some ad) n xss)) :
    Calls Try.prog 36 #[.agg #[.int .i64 r, .slice (some ad) n c]] w (OutS w r (xss.map List.reverse) 0) := by
  have hl := Lib.hid hh.out.1
  have hn16 : n ≤ 16 := by have := hok.out.few; have := hl.out; omega
  have hn0 : 0 < n := by have := hok.out.some; have := hl.out; omega
  have hm := hok.out.long
  have hq : (chkS r xss != 0) = false := by rw [hc.out]; rfl
  go_enter Try.func36, Try.ntmps36
  go_wp2_with fail
  refine calls_later (w.heap.size + 2) ?_
  intro W hW hsW
  obtain ⟨hcW, hfW⟩ := bcell hW
  simp only [World.size_alloc] at hsW
  have hbW : Below w.heap.size w W := (((Below.refl _ w).alloc (Nat.le_refl _) _).alloc (by simp) _).trans (hW.mono (by omega))
  go_upto_region 4 with (go_at_call 38; refine (RCHECK_any r (some ad) n c xss _ B (by omega) (hh.out.below hbW hB)).mono ?_; rintro e wk ⟨rfl, hbk⟩; have hzk := pcell (hbk.mono hsW))
  have hbS0 : Below (w.heap.size + 2) W wk := hbk.mono hsW
  go_cut [5] (fun s5 wx => ∃ (g : Nat) (V : Value) (rows : List Value), s5 = .pointer (some ⟨g, 0, none⟩) ∧ Hid (wx.heap[g]? = some (.cells #[.int .i64 r, V] 24 (0, 0))) ∧ Hid (OwnRowsL wx (w.heap.size + 2) V (zeroS n (len0 xss)) rows) ∧ Hid (Below (w.heap.size + 2) W wx) ∧ w.heap.size + 2 ≤ g)
  case first =>
    go_region_held3 (fun w' => Below (w.heap.size + 2) W w' ∧ ∀ z : Addr, z.block < w.heap.size + 2 → w'.cell? z = W.cell? z)
      ((refine (fun h => ⟨h, pcell h⟩) ?_; repeat (first | assumption | exact Below.refl _ _ | (refine Below.drew ?_) | (refine Below.alloc ?_ (by first | omega | (simp; omega) | exact Nat.le_trans hsW (Below.size (by assumption)) | (simp only [World.size_drew, World.size_alloc]; exact Nat.le_trans hsW (Nat.le_succ_of_le (Below.size (by assumption))))) _) | (refine Below.setCell ?_ (by first | omega | (simp; omega) | exact Nat.le_trans hsW (Below.size (by assumption))) _))))
      (first
        | (go_at_call 66; refine (RLONG_any r (some ad) n c xss _ B (Below.ge ‹Below (w.heap.size + 2) W _ ∧ _› hsW (by omega)) (hh.out.below (Below.via hbW ‹Below (w.heap.size + 2) W _ ∧ _› (by omega)) hB) hn0).mono ?_; rintro e w1 ⟨rfl, hb1⟩; have hbS := Below.next (‹Below (w.heap.size + 2) W _ ∧ _›).1 hsW hb1; have hz1 := pcell hb1; have hy1 := fun b o => (bcell hb1).2 b o; have hs1 := hb1.size; simp only [World.size_alloc, World.size_drew, Nat.add_one_le_iff] at hs1)
        | (go_at_call 67; refine (REMPTY_any r n (len0 xss) (by omega) (by omega) _).mono ?_; rintro e w2 ⟨v2, rfl, ho2, hb2⟩; obtain ⟨A2, c2, rfl, _, _⟩ := ho2.form; have hbS2 := Below.next (‹Below (w.heap.size + 2) W _ ∧ _›).1 hsW hb2; have hz2 := pcell hb2; have hy2 := fun b o => (bcell hb2).2 b o; have hs2 := hb2.size; (try simp only [World.size_alloc, Nat.add_one_le_iff] at hs2)))
    all_goals (go_wp2_with fail; go_meet)
    · obtain ⟨rows, hL2⟩ := ho2
      have hx1 : w.heap.size + 2 ≤ w1.heap.size := Nat.le_trans hsW hbS.size
      exact ⟨w2.heap.size, _, rows, rfl, heap_alloc_new _ _, (hL2.alloc _).base hx1, hbS2.alloc (by omega) _, by omega⟩
    · obtain ⟨rows, hL2⟩ := ho2
      have hx1 : w.heap.size + 2 ≤ w1.heap.size := Nat.le_trans hsW hbS.size
      have hb2x := (hb2.block w1.heap.size (by simp)).trans (heap_alloc_new w1 (.cells #[.int .i64 0, .slice none 0 0] 24))
      exact ⟨w1.heap.size, _, rows, rfl, heap_set2 hb2x, (hL2.base (by simp; omega)).set2_far hb2x (by decide) (by decide) _ _, set2_below hbS2 hx1, hx1⟩
    · obtain ⟨rows, hL2⟩ := ho2
      have hx0 : w.heap.size + 2 ≤ wk.heap.size := Nat.le_trans hsW hbk.size
      have hx1 : w.heap.size + 2 ≤ w1.heap.size := Nat.le_trans hsW hbS.size
      have hb2x := (hb2.block wk.heap.size (by have := hb1.size; simp at this; omega)).trans ((hb1.block wk.heap.size (by simp)).trans (heap_alloc_new wk (.cells #[.int .i64 0, .slice none 0 0] 24)))
      exact ⟨wk.heap.size, _, rows, rfl, heap_set2 hb2x, (hL2.base hx1).set2_far hb2x (by decide) (by decide) _ _, set2_below hbS2 hx0, hx0⟩
  case rest =>
    obtain ⟨g, V, rows, rfl, hbox, hL, hb, hg⟩ := hcut
    have HYm : Hid (∀ a, a < (xss.map List.reverse).length → (rowOf (xss.map List.reverse) a).length = len0 xss) := fun a ha => by
      rw [List.length_map] at ha
      rw [rev_row ha, List.length_reverse]; exact (hok.out.row ha).1
    have HY : Hid ((xss.map List.reverse).length = n) := by show _ = _; rw [List.length_map]; exact hl.out
    obtain ⟨Y, hY⟩ : ∃ Y, xss.map List.reverse = Y := ⟨_, rfl⟩
    have HYD := Lib.hid hY
    rw [hY] at HYm HY
    clear hY
    obtain ⟨AV, cV, hVe, _, _⟩ := own_form hL.out.outer
    rw [zeroS_length] at hVe
    subst hVe
    obtain ⟨gv, hgv⟩ : ∃ gv, AV = some ⟨gv, 0, none⟩ := by
      have h1 := hL.out.outer
      rw [zeroS_length] at h1
      obtain ⟨gv, cap, e, _⟩ := own_slot h1 hn0
      exact ⟨gv, by injection e⟩
    subst hgv
    have HF0 : Hid (∃ zss, PartOf Y zss (len0 xss) (fun a _ => a < 0) ∧ FillI (w.heap.size + 2) W g (.int .i64 r) gv n cV rows wc zss) := ⟨_, PartOf.start Y _ (fun _ _ _ _ => by omega), ⟨hb.out, hbox.out, by rw [HY.out]; exact hL.out, hg⟩⟩
    clear hbox hL hb
    go_wp2_with fail
    go_loopw [6] (fun i wr => ∃ k : Nat, k ≤ n ∧ i = .int .i64 k ∧ Hid (∃ zss, PartOf Y zss (len0 xss) (fun a _ => a < k) ∧ FillI (w.heap.size + 2) W g (.int .i64 r) gv n cV rows wr zss)) (fun i _ => n - (intOf i).toNat)
    case atStart => exact ⟨0, Nat.zero_le _, rfl, HF0.out⟩
    case round =>
      obtain ⟨k, hk, rfl, hFz⟩ := hrel
      by_cases hlt : k < n
      · have hkx : Hid (k < xss.length) := by show _ < _; have := hl.out; omega
        obtain ⟨A', n', c', hadB, hcell0, hn', hc', hi⟩ := hh.out.row hlt
        obtain rfl : n' = len0 xss := hi.1.symm.trans (hok.out.row hkx.out).1
        have hi' := Lib.hid hi
        have HC0 := Lib.hid hcell0
        clear hi hcell0
        unfold maxLen at hc'
        have hzo : ∀ p : Addr, p.block < w.heap.size + 2 → wr.cell? p = W.cell? p := by obtain ⟨_, _, hF⟩ := hFz.out; exact pcell hF.below
        have hk0' : (k : Int) < (n : Int) := by omega
        go_wp2_with fail
        clear hzo hk0'
        have hk0 : (0 : Int) ≤ (k : Int) := by omega
        have hkn : (k : Int) < (n : Int) := by omega
        obtain ⟨wo, hwo⟩ : ∃ wo : World, wo = wr := ⟨_, rfl⟩
        rw [← hwo] at hFz ⊢
        clear hwo
        go_loopw [7] (fun i wi => ∃ j : Nat, j ≤ len0 xss ∧ i = .int .i64 j ∧ Hid (∃ zss, PartOf Y zss (len0 xss) (fun a i => a < k ∨ (a = k ∧ len0 xss - j ≤ i)) ∧ FillI (w.heap.size + 2) W g (.int .i64 r) gv n cV rows wi zss)) (fun i _ => len0 xss - (intOf i).toNat)
        case atStart => exact ⟨0, Nat.zero_le _, rfl, by obtain ⟨zss, hP, hF⟩ := hFz.out; exact ⟨zss, hP.weaken (fun a i _ hi h => by omega), hF⟩⟩
        case round =>
          obtain ⟨j, hj, rfl, hiz⟩ := hrel
          obtain ⟨zss, hP0, hi0⟩ := hiz.out
          have hP := Lib.hid hP0
          have hi := Lib.hid hi0
          clear hP0 hi0 hiz
          have hzi := pcell hi.out.below
          have hbi : Below B w wr := (hbW.mono hB).trans (hi.out.below.mono (show B ≤ w.heap.size + 2 by omega))
          have hsz : B ≤ wr.heap.size := Nat.le_trans (by omega) hi.out.below.size
          by_cases hjl : j < len0 xss
          · go_wp2_with fail
            refine (RLONG_any r _ n c xss _ B hsz (hh.out.below hbi (Nat.le_refl _)) hn0).mono ?_
            rintro e w4 ⟨rfl, hb4⟩
            have hi4 := Lib.hid (hi.out.next hsW hb4)
            have hb4B := (hbW.mono hB).trans (hi4.out.below.mono (show B ≤ w.heap.size + 2 by omega))
            clear hzi hbi hsz
            have hzd4 := pcell hi4.out.below
            have hcd4 := (hb4B.cell (p := ad.add k) (by rw [block_of_add]; omega)).trans HC0.out
            have hid4 := Lib.hid (hi'.out.below hb4B (Nat.le_refl _))
            obtain ⟨ad', rfl⟩ := hi'.out.addr (by omega)
            have hci4 := (hid4.out.at_ hjl).2
            obtain ⟨p, hp⟩ : ∃ p : Nat, p = len0 xss - 1 - j := ⟨_, rfl⟩
            have Hp := Lib.hid hp
            have hpm : p < len0 xss := by omega
            have HE : Hid (elOf (rowOf Y k) p = elOf (rowOf xss k) j) := by
              show _ = _
              rw [← HYD.out, rev_row hkx.out, elOf_reverse (by rw [(hok.out.row hkx.out).1]; exact hpm), (hok.out.row hkx.out).1]
              congr 1; omega
            obtain ⟨x, hx⟩ : ∃ x, elOf (rowOf xss k) j = x := ⟨_, rfl⟩
            have Hx := Lib.hid hx
            rw [hx] at hci4 HE
            have hkY : k < Y.length := by rw [HY.out]; exact hlt
            obtain ⟨b', cap, hrk, hcap1, hcap2, -, hn3, hc3⟩ := hi4.out.slot (by rw [hP.out.len]; exact hkY) (hP.out.rows k hkY) (by omega)
            have HR := Lib.hid hrk
            have HkY := Lib.hid hkY
            have hcs0 : w4.cell? ⟨w.heap.size, 0, none⟩ = some (.int .i64 r) := by rw [hzd4 _ (by simp), hcW _ _ (by simp)]; simp [go_sem]
            have hcs1 : w4.cell? ⟨w.heap.size, 1, none⟩ = some (.slice (some ad) n c) := by rw [hzd4 _ (by simp), hcW _ _ (by simp)]; simp [go_sem]
            have hM1 : IntKind.i64.wrap ((len0 xss : Int) - 1) = (len0 xss : Int) - 1 := IntWalk.i64_in _ (by omega)
            have hM2 : IntKind.i64.wrap ((len0 xss : Int) - 1 - (j : Int)) = (p : Int) := by rw [IntWalk.i64_in _ (by omega)]; omega
            have HM1 := Lib.hid hM1
            have HM2 := Lib.hid hM2
            have hj0 : (0 : Int) ≤ (j : Int) := by omega
            have hjn : (j : Int) < (len0 xss : Int) := by omega
            have hp0 : (0 : Int) ≤ (p : Int) := by omega
            have hpn : (p : Int) < (len0 xss : Int) := by omega
            have hS4 := hi4.out.cells HR.out
            clear hp hrk hkY hx hM1 hM2
            go_wp2_with fail
            have hS : (w4.drew.cell? ⟨g, 1, none⟩ = some (.slice (some ⟨gv, 0, none⟩) n cV) ∧ w4.drew.cell? ⟨gv, k, none⟩ = some (.slice (some ⟨b', 0, none⟩) (len0 xss) cap)) ∧ w4.drew.cell? ⟨w.heap.size, 0, none⟩ = some (.int .i64 r) ∧ w4.drew.cell? ⟨w.heap.size, 1, none⟩ = some (.slice (some ad) n c) ∧ w4.drew.cell? (ad.add k) = some (.slice (some ad') (len0 xss) c') ∧ w4.drew.cell? (ad'.add j) = some (.int .i64 x) := ⟨hS4, hcs0, hcs1, hcd4, hci4⟩
            clear hS4 hcs0 hcs1 hcd4 hci4
            refine wp_region_head 18 (fun w' => (w'.cell? ⟨g, 1, none⟩ = some (.slice (some ⟨gv, 0, none⟩) n cV) ∧ w'.cell? ⟨gv, k, none⟩ = some (.slice (some ⟨b', 0, none⟩) (len0 xss) cap)) ∧ w'.cell? ⟨w.heap.size, 0, none⟩ = some (.int .i64 r) ∧ w'.cell? ⟨w.heap.size, 1, none⟩ = some (.slice (some ad) n c) ∧ w'.cell? (ad.add k) = some (.slice (some ad') (len0 xss) c') ∧ w'.cell? (ad'.add j) = some (.int .i64 x)) (by kernel_rfl) (by kernel_rfl) ?_
            refine HL.take (i := 0) (oi := _) (v := ?_) rfl (by kernel_rfl) (by kernel_rfl) (by decide) (fun _ _ _ h => h) (Or.inl ⟨by rfl, ?_⟩) hS ?_
            rotate_left
            · intro wz hwz
              try dsimp only at hwz
              go_simp
              try with_reducible rfl
            simp only [Act.put, List.setIfInBounds_toArray, List.set_cons_zero, List.set_cons_succ]
            refine HL.take (i := 1) (oi := _) (v := ?_) rfl (by kernel_rfl) (by kernel_rfl) (by decide) (fun _ _ _ h => h) (Or.inl ⟨by rfl, ?_⟩) hS ?_
            rotate_left
            · intro wz hwz
              try dsimp only at hwz
              go_simp
              try with_reducible rfl
            simp only [Act.put, List.setIfInBounds_toArray, List.set_cons_zero, List.set_cons_succ]
            refine HL.take (i := 2) (oi := _) (v := ?_) rfl (by kernel_rfl) (by kernel_rfl) (by decide) (fun _ _ _ h => h) (Or.inl ⟨by rfl, ?_⟩) hS ?_
            rotate_left
            · intro wz hwz
              try dsimp only at hwz
              go_simp
              try with_reducible rfl
            simp only [Act.put, List.setIfInBounds_toArray, List.set_cons_zero, List.set_cons_succ]
            refine HL.take (i := 3) (oi := _) (v := ?_) rfl (by kernel_rfl) (by kernel_rfl) (by decide) (fun _ _ _ h => h) (Or.inl ⟨by rfl, ?_⟩) hS ?_
            rotate_left
            · intro wz hwz
              try dsimp only at hwz
              go_simp
              try with_reducible rfl
            simp only [Act.put, List.setIfInBounds_toArray, List.set_cons_zero, List.set_cons_succ]
            refine HL.take (i := 4) (oi := _) (v := ?_) rfl (by kernel_rfl) (by kernel_rfl) (by decide) (fun _ _ _ h => h) (Or.inl ⟨by rfl, ?_⟩) hS ?_
            rotate_left
            · intro wz hwz
              try dsimp only at hwz
              go_simp
              try with_reducible rfl
            simp only [Act.put, List.setIfInBounds_toArray, List.set_cons_zero, List.set_cons_succ]
            refine HL.take (i := 5) (oi := _) (v := ?_) rfl (by kernel_rfl) (by kernel_rfl) (by decide) (fun _ _ _ h => h) (Or.inl ⟨by rfl, ?_⟩) hS ?_
            rotate_left
            · intro wz hwz
              try dsimp only at hwz
              go_simp
              try with_reducible rfl
            simp only [Act.put, List.setIfInBounds_toArray, List.set_cons_zero, List.set_cons_succ]
            refine HL.take (i := 8) (oi := _) (v := ?_) rfl (by kernel_rfl) (by kernel_rfl) (by decide) (fun _ _ _ h => h) (Or.inl ⟨by rfl, ?_⟩) hS ?_
            rotate_left
            · intro wz hwz
              try dsimp only at hwz
              go_simp
              try with_reducible rfl
            simp only [Act.put, List.setIfInBounds_toArray, List.set_cons_zero, List.set_cons_succ]
            refine HL.take (i := 10) (oi := _) (v := ?_) rfl (by kernel_rfl) (by kernel_rfl) (by decide) (fun _ _ _ h => h) (Or.inl ⟨by rfl, ?_⟩) hS ?_
            rotate_left
            · intro wz hwz
              try dsimp only at hwz
              go_simp
              try with_reducible rfl
            simp only [Act.put, List.setIfInBounds_toArray, List.set_cons_zero, List.set_cons_succ]
            refine HL.take (i := 11) (oi := _) (v := ?_) rfl (by kernel_rfl) (by kernel_rfl) (by decide) (fun _ _ _ h => h) (Or.inl ⟨by rfl, ?_⟩) hS ?_
            rotate_left
            · intro wz hwz
              try dsimp only at hwz
              go_simp
              try with_reducible rfl
            simp only [Act.put, List.setIfInBounds_toArray, List.set_cons_zero, List.set_cons_succ]
            refine HL.take (i := 12) (oi := _) (v := ?_) rfl (by kernel_rfl) (by kernel_rfl) (by decide) (fun _ _ _ h => h) (Or.inl ⟨by rfl, ?_⟩) hS ?_
            rotate_left
            · intro wz hwz
              try dsimp only at hwz
              go_simp
              try with_reducible rfl
            simp only [Act.put, List.setIfInBounds_toArray, List.set_cons_zero, List.set_cons_succ]
            refine HL.take (i := 13) (oi := _) (v := ?_) rfl (by kernel_rfl) (by kernel_rfl) (by decide) (fun _ _ _ h => h) (Or.inl ⟨by rfl, ?_⟩) hS ?_
            rotate_left
            · intro wz hwz
              try dsimp only at hwz
              go_simp
              try with_reducible rfl
            simp only [Act.put, List.setIfInBounds_toArray, List.set_cons_zero, List.set_cons_succ]
            refine HL.take (i := 14) (oi := _) (v := ?_) rfl (by kernel_rfl) (by kernel_rfl) (by decide) (fun _ _ _ h => h) (Or.inl ⟨by rfl, ?_⟩) hS ?_
            rotate_left
            · intro wz hwz
              try dsimp only at hwz
              go_simp
              try with_reducible rfl
            simp only [Act.put, List.setIfInBounds_toArray, List.set_cons_zero, List.set_cons_succ]
            refine HL.take (i := 15) (oi := _) (v := ?_) rfl (by kernel_rfl) (by kernel_rfl) (by decide) (fun _ _ _ h => h) (Or.inl ⟨by rfl, ?_⟩) hS ?_
            rotate_left
            · intro wz hwz
              try dsimp only at hwz
              go_simp
              try with_reducible rfl
            simp only [Act.put, List.setIfInBounds_toArray, List.set_cons_zero, List.set_cons_succ]
            refine HL.take (i := 16) (oi := _) (v := ?_) rfl (by kernel_rfl) (by kernel_rfl) (by decide) (fun _ _ _ h => h) (Or.inl ⟨by rfl, ?_⟩) hS ?_
            rotate_left
            · intro wz hwz
              try dsimp only at hwz
              go_simp
              try with_reducible rfl
            simp only [Act.put, List.setIfInBounds_toArray, List.set_cons_zero, List.set_cons_succ]
            refine HL.take (i := 17) (oi := _) (v := ?_) rfl (by kernel_rfl) (by kernel_rfl) (by decide) (fun _ _ _ h => h) (Or.inl ⟨by rfl, ?_⟩) hS ?_
            rotate_left
            · intro wz hwz
              try dsimp only at hwz
              go_simp
              try with_reducible rfl
            simp only [Act.put, List.setIfInBounds_toArray, List.set_cons_zero, List.set_cons_succ]
            refine HL.one (i := 6) (o := _) rfl (by kernel_rfl) (by decide) (by rfl) ?_
            intro K hK
            go_simp
            refine (RLONG_any r (some ad) n c xss _ B (by have := hi4.out.below.size; simp; omega) ((hh.out.below hb4B (Nat.le_refl _)).below (Below.refl _ _).drew (Nat.le_refl _)) hn0).mono ?_
            rintro e w5 ⟨rfl, hb5⟩
            have hi5 := Lib.hid (hi4.out.drew.next hsW hb5)
            have hS5 : (w5.cell? ⟨g, 1, none⟩ = some (.slice (some ⟨gv, 0, none⟩) n cV) ∧ w5.cell? ⟨gv, k, none⟩ = some (.slice (some ⟨b', 0, none⟩) (len0 xss) cap)) ∧ w5.cell? ⟨w.heap.size, 0, none⟩ = some (.int .i64 r) ∧ w5.cell? ⟨w.heap.size, 1, none⟩ = some (.slice (some ad) n c) ∧ w5.cell? (ad.add k) = some (.slice (some ad') (len0 xss) c') ∧ w5.cell? (ad'.add j) = some (.int .i64 x) := by
              have hbB := (hbW.mono hB).trans (hi5.out.below.mono (show B ≤ w.heap.size + 2 by omega))
              have hz5 := pcell hi5.out.below
              refine ⟨hi5.out.cells HR.out, ?_, ?_, (hbB.cell (p := ad.add k) (by rw [block_of_add]; omega)).trans HC0.out, ?_⟩
              · rw [hz5 _ (by simp), hcW _ _ (by simp)]; simp [go_sem]
              · rw [hz5 _ (by simp), hcW _ _ (by simp)]; simp [go_sem]
              · rw [← Hx.out]; exact ((hi'.out.below hbB (Nat.le_refl _)).at_ hjl).2
            refine hK.out _ _ hS5 ?_
            try simp only [Act.put, List.setIfInBounds_toArray, List.set_cons_zero, List.set_cons_succ]
            clear hK K hS
            have hS := hS5
            clear hS5
            refine HL.take (i := 7) (oi := _) (v := .int .i64 ((len0 xss : Int) - 1)) rfl (by kernel_rfl) (by kernel_rfl) (by decide) (fun _ _ _ h => h) (Or.inl ⟨by rfl, ?_⟩) hS ?_
            · intro wz hwz
              try dsimp only at hwz
              go_simp
              first | done | exact HM1.out | simp only [HM1.out]
            simp only [Act.put, List.setIfInBounds_toArray, List.set_cons_zero, List.set_cons_succ]
            refine HL.take (i := 9) (oi := _) (v := .int .i64 (p : Int)) rfl (by kernel_rfl) (by kernel_rfl) (by decide) (fun _ _ _ h => h) (Or.inl ⟨by rfl, ?_⟩) hS ?_
            · intro wz hwz
              try dsimp only at hwz
              go_simp
              first | done | exact HM2.out | simp only [HM2.out]
            simp only [Act.put, List.setIfInBounds_toArray, List.set_cons_zero, List.set_cons_succ]
            refine HL.done (by kernel_rfl) ?_
            simp only [List.drop_succ_cons, List.drop_zero]
            obtain ⟨⟨vo, hvo⟩, hfz⟩ := hi5.out.elem HR.out hpm
            have HI6 := Lib.hid (hi5.out.set_ HR.out p x)
            have HP6 := Lib.hid (hP.out.set_ (done' := fun a i => a < k ∨ (a = k ∧ len0 xss - (j + 1) ≤ i)) HkY.out hpm HE.out (fun a i ha hi h => by have := Hp.out; omega))
            clear hb5 hb4 hzd4
            go_wp2
            go_roundw
            case rel => exact ⟨j + 1, by omega, by go_num, ⟨_, HP6.out, HI6.out⟩⟩
            case measure => simp [intOf]; omega
          · obtain rfl : j = len0 xss := by omega
            go_wp2_with fail
            refine (RLONG_any r _ n c xss _ B hsz (hh.out.below hbi (Nat.le_refl _)) hn0).mono ?_
            rintro e w4 ⟨rfl, hb4⟩
            have hi4 := Lib.hid (hi.out.next hsW hb4)
            clear hzi hbi hsz
            go_wp2_with fail
            go_roundw
            case rel => exact ⟨k + 1, by omega, by go_num, ⟨zss, hP.out.weaken (fun a i _ hi h => by omega), hi4.out⟩⟩
            case measure => simp [intOf]; omega
      · obtain rfl : k = n := by omega
        obtain ⟨zss, hP, hF0⟩ := hFz.out
        have hF := Lib.hid hF0
        have he := hP.all HYm.out (fun a i ha _ => by rw [← HY.out]; exact ha)
        subst he
        clear hF0 hFz hP HF0
        have hzo := pcell hF.out.below
        have hcg0 := own_cell1 hF.out.box 0
        have hcg1 := own_cell1 hF.out.box 1
        simp at hcg0 hcg1
        have hcr0 : wr.cell? ⟨w.heap.size + 1, 0, none⟩ = some (.int .i64 0) := by rw [hzo _ (by simp), hcW _ _ (by simp)]; simp [go_sem]
        have hcr1 : wr.cell? ⟨w.heap.size + 1, 1, none⟩ = some (.slice none 0 0) := by rw [hzo _ (by simp), hcW _ _ (by simp)]; simp [go_sem]
        have hfr := fun b o h => ((bcell hF.out.below).2 b o h)
        go_wp2_with fail
        refine end_snd2 rfl rfl rfl hcr0 hcr1 ?_
        have hI9 := hF.out.own
        rw [HYD.out]
        have HY9 := HY.out
        exact ⟨_, by simp [HY9], ⟨rows, ((hI9.set_below (p := ⟨w.heap.size + 1, 0, none⟩) (by simp) _).set_below (p := ⟨w.heap.size + 1, 1, none⟩) (by simp) _).base (show w.heap.size ≤ w.heap.size + 2 by omega)⟩, set2_below (hbW.trans (hF.out.below.mono (by omega))) (by omega)⟩
theorem REVERSED_any (r : Int) (A : Option Addr) (n c : Nat) (xss : List (List Int)) (w : World) (B : Nat) (hB : B ≤ w.heap.size) (hh : RowsAt w B A n xss) :
    Calls Try.prog 35 #[.agg #[.int .i64 r, .slice A n c]] w (OutS w (rvS r xss).1 (rvS r xss).2.1 (rvS r xss).2.2) := by
  unfold rvS
  by_cases hc : chkS r xss = 0
  · have hok := chkS_ok hc
    have hn : 0 < n := by have := hok.some; have := hh.1; omega
    obtain ⟨ad, rfl⟩ := hh.addr hn
    rw [if_neg (by simp [hc])]
    exact REVERSED_ok r ad n c xss hok hc w B hB hh
  · rw [if_pos hc]
    exact REVERSED_chk r A n c xss hc w B hB hh
theorem RREVERSED_any (r : Int) (A : Option Addr) (n c : Nat) (xss : List (List Int)) (w : World) (B : Nat) (hB : B ≤ w.heap.size) (hh : RowsAt w B A n xss) :
    Calls Try.prog 36 #[.agg #[.int .i64 r, .slice A n c]] w (OutS w (rvS r xss).1 (rvS r xss).2.1 (rvS r xss).2.2) := by
  unfold rvS
  by_cases hc : chkS r xss = 0
  · have hok := chkS_ok hc
    have hn : 0 < n := by have := hok.some; have := hh.1; omega
    obtain ⟨ad, rfl⟩ := hh.addr hn
    rw [if_neg (by simp [hc])]
    exact RREVERSED_ok r ad n c xss hok hc w B hB hh
  · rw [if_pos hc]
    exact RREVERSED_chk r A n c xss hc w B hB hh
end Go.Proofs.Ytpnbkkpbgpcgiaa
