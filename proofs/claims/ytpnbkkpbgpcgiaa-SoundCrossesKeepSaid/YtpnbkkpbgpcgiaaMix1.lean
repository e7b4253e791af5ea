/- Mix, the document's, where all is right. -/
import Derived.Test.YtpnbkkpbgpcgiaaClip
import Derived.Test.YtpnbkkpbgpcgiaaBoth
import Derived.Test.YtpnbkkpbgpcgiaaFill
import Derived.Test.YtpnbkkpbgpcgiaaEnds2
import Derived.Test.YtpnbkkpbgpcgiaaQuiet1
import Derived.Deep.RegionHeld3
import Derived.Deep.DeepCutAuto
set_option linter.unusedSimpArgs false
set_option linter.unusedVariables false
namespace Go.Proofs.Ytpnbkkpbgpcgiaa
open Go.RowKit Go.Dw
attribute [local go_sem ↓] Go.wp_at_zero Go.wp_at_succ

set_option maxRecDepth 100000 in
set_option maxHeartbeats 4000000 in
theorem RMIX_ok (r : Int) (ad ad' : Addr) (n c c' : Nat) (xss yss : List (List Int)) (hc : Hid (both1 r r xss yss = 0)) (hd : Hid (alikeB r r n n = 0)) (hok : Hid (OkS r xss)) (hok' : Hid (OkS r yss)) (w : World) (B : Nat) (hB : B ≤ w.heap.size) (hh : Hid (RowsAt w B (some ad) n xss)) (hh' : Hid (RowsAt w B (some ad') n yss)) :
    Calls Try.prog 52 #[.agg #[.int .i64 r, .slice (some ad) n c], .agg #[.int .i64 r, .slice (some ad') n c']] w (OutS3 w r (clipS (mixT xss yss)) (stS clipU 0 (mixT xss yss)) 0) := by
  have hl := Lib.hid hh.out.1
  have hl' := Lib.hid hh'.out.1
  have hn16 : n ≤ 16 := by have := hok.out.few; have := hl.out; omega
  have hn : 0 < n := by have := hok.out.some; have := hl.out; omega
  have hm := hok.out.long
  have hm' := hok'.out.long
  have hq : (both1 r r xss yss != 0) = false := by rw [hc.out]; rfl
  have hq2 : (alikeB r r n n != 0) = false := by rw [hd.out]; rfl
  obtain ⟨L, hL⟩ : ∃ L, L = max (len0 xss) (len0 yss) := ⟨_, rfl⟩
  have hL9 : L ≤ 100000 := by omega
  have HLm := Lib.hid hL
  obtain ⟨T, hT⟩ : ∃ T, mixT xss yss = T := ⟨_, rfl⟩
  have HTl : Hid (T.length = n) := by show _ = _; rw [← hT]; exact mtx_length.trans hl.out
  have HTm : Hid (∀ a, a < n → (rowOf T a).length = L) := fun a ha => by rw [← hT, hL]; exact mtx_len (by rw [hl.out]; exact ha)
  have HTe : Hid (∀ a i, a < n → i < L → elOf (rowOf T a) i = elOf (rowOf xss a) i + elOf (rowOf yss a) i) := fun a i ha hi => by rw [← hT]; exact mtx_el (by rw [hl.out]; exact ha) (by rw [← hL]; exact hi)
  have HTr : Hid (∀ t ∈ T, t.length = L) := by rw [← hT, hL]; exact mtx_rows
  have HY : Hid ((clipS T).length = n) := (clipS_length T).trans HTl.out
  have HYm : Hid (∀ a, a < (clipS T).length → (rowOf (clipS T) a).length = L) := fun a ha => by
    rw [clipS_length] at ha; rw [clipS_len ha]; exact HTm.out a (by rw [← HTl.out]; exact ha)
  rw [hT]
  have HLx : len0 xss ≤ L := by omega
  have HLy : len0 yss ≤ L := by omega
  clear hT hL
  go_enter Try.func52, Try.ntmps52
  go_wp2_with fail
  refine calls_later (w.heap.size + 3) ?_
  intro W hW hsW
  obtain ⟨hcW, hfW⟩ := bcell hW
  simp only [World.size_alloc] at hsW
  have hbW : Below w.heap.size w W := ((((Below.refl _ w).alloc (Nat.le_refl _) _).alloc (by simp) _).alloc (by simp; omega) _).trans (hW.mono (by omega))
  have HRx : Hid (RowsAt W B (some ad) n xss) := hh.out.below hbW hB
  have HRy : Hid (RowsAt W B (some ad') n yss) := hh'.out.below hbW hB
  refine (RBOTH_any r r (some ad) (some ad') n n c c' xss yss _ B (by omega) (hh.out.below hbW hB) (hh'.out.below hbW hB)).mono ?_
  rintro e w2 ⟨rfl, hb2⟩
  have hS2 : Below (w.heap.size + 3) W w2 := hb2.mono hsW
  have hz2 := pcell hS2
  clear hb2
  go_upto_region 7 with (go_at_call 93; refine (RALIKE_any r r (some ad) (some ad') n n c c' _).mono ?_; rintro e w3 ⟨rfl, hb3⟩; have hS3 := Below.next hS2 hsW hb3; have hz3 := pcell hS3)
  go_cut [9, 10] (fun s9 s10 wx => ∃ (g : Nat) (V : Value) (rows : List Value), s9 = .pointer (some ⟨g, 0, none⟩) ∧ s10 = .int .i64 0 ∧ Hid (wx.heap[g]? = some (.cells #[.int .i64 r, V] 24 (0, 0))) ∧ Hid (OwnRowsL wx (w.heap.size + 3) V (zeroS n L) rows) ∧ Hid (Below (w.heap.size + 3) W wx) ∧ w.heap.size + 3 ≤ g)
  case first =>
    have hmx : (len0 xss < len0 yss ∧ L = len0 yss) ∨ (¬ len0 xss < len0 yss ∧ L = len0 xss) := by have := HLm.out; omega
    rcases hmx with ⟨hlt, hLe⟩ | ⟨hlt, hLe⟩
    · have e1 := eq_true hlt
      have e2 := eq_true (show (len0 xss : Int) < (len0 yss : Int) by omega)
      have HLe := Lib.hid hLe
      clear hlt hLe
      go_region_held3 (fun w' => Below (w.heap.size + 3) W w' ∧ ∀ z : Addr, z.block < w.heap.size + 3 → w'.cell? z = W.cell? z)
        ((refine (fun h => ⟨h, pcell h⟩) ?_; repeat (first | assumption | exact Below.refl _ _ | (refine Below.drew ?_) | (refine Below.alloc ?_ (by first | omega | (simp; omega) | exact Nat.le_trans hsW (Below.size (by assumption)) | (simp only [World.size_drew, World.size_alloc]; exact Nat.le_trans hsW (Nat.le_succ_of_le (Below.size (by assumption))))) _) | (refine Below.setCell ?_ (by first | omega | (simp; omega) | exact Nat.le_trans hsW (Below.size (by assumption))) _))))
        (first
          | (go_at_call 66; (with_reducible refine (RLONG_any r (some ad) n c xss _ B ?_ ?_ hn).mono ?_); (exact Below.ge ‹Below (w.heap.size + 3) W _ ∧ _› hsW (by omega)); (exact HRx.out.below ((‹Below (w.heap.size + 3) W _ ∧ _›).1.mono (by omega)) (Nat.le_refl _)); rintro e w7 ⟨rfl, hb7⟩; have hbS := Below.next (‹Below (w.heap.size + 3) W _ ∧ _›).1 hsW hb7; have hz7 := pcell hb7; have hy7 := fun b o => (bcell hb7).2 b o; have hs7 := hb7.size; (try simp only [World.size_alloc, World.size_drew, Nat.add_one_le_iff] at hs7); (try have hk7 : w3.heap.size < w7.heap.size := by omega); (first | have hx9 := (hb7.block w3.heap.size (by omega)).trans hx9 | have hx9 := (hb7.block w3.heap.size (by simp)).trans (heap_alloc_new w3 (.cells #[.int .i64 0, .slice none 0 0] 24)) | skip))
          | (go_at_call 66; (with_reducible refine (RLONG_any r (some ad') n c' yss _ B ?_ ?_ hn).mono ?_); (exact Below.ge ‹Below (w.heap.size + 3) W _ ∧ _› hsW (by omega)); (exact HRy.out.below ((‹Below (w.heap.size + 3) W _ ∧ _›).1.mono (by omega)) (Nat.le_refl _)); rintro e w7 ⟨rfl, hb7⟩; have hbS := Below.next (‹Below (w.heap.size + 3) W _ ∧ _›).1 hsW hb7; have hz7 := pcell hb7; have hy7 := fun b o => (bcell hb7).2 b o; have hs7 := hb7.size; (try simp only [World.size_alloc, World.size_drew, Nat.add_one_le_iff] at hs7); (try have hk7 : w3.heap.size < w7.heap.size := by omega); (first | have hx9 := (hb7.block w3.heap.size (by omega)).trans hx9 | have hx9 := (hb7.block w3.heap.size (by simp)).trans (heap_alloc_new w3 (.cells #[.int .i64 0, .slice none 0 0] 24)) | skip))
          | (go_at_call 67; (with_reducible refine (REMPTY_any r n (len0 yss) ?_ ?_ _).mono ?_); (omega); (omega); rintro e w8 ⟨v8, rfl, ho8, hb8⟩; obtain ⟨A8, c8, rfl, _, _⟩ := ho8.form; have hbS8 := Below.next (‹Below (w.heap.size + 3) W _ ∧ _›).1 hsW hb8; have hz8 := pcell hb8; have hy8 := fun b o => (bcell hb8).2 b o; have hs8 := hb8.size; (try simp only [World.size_alloc, Nat.add_one_le_iff] at hs8)))
      all_goals (go_wp2_with fail; go_meet)
      all_goals rw [HLe.out]
      · obtain ⟨rows, hL2⟩ := ho8
        have hq8 := hbS8.size
        have hq7 := hbS.size
        have hq3 := hS3.size
        exact ⟨w8.heap.size, _, rows, rfl, rfl, heap_alloc_new _ _, (hL2.alloc _).base (by first | omega | (simp; omega)), hbS8.alloc (by omega) _, by omega⟩
      all_goals
        obtain ⟨rows, hL2⟩ := ho8
        have hq8 := hbS8.size
        have hq7 := hbS.size
        have hq3 := hS3.size
        first
          | have hx := (hb8.block _ (by simp)).trans (heap_alloc_new _ (.cells #[.int .i64 0, .slice none 0 0] 24))
          | have hx := (hb8.block _ (by first | (simp; done) | omega | (simp; omega))).trans ((hb7.block _ (by simp)).trans (heap_alloc_new _ (.cells #[.int .i64 0, .slice none 0 0] 24)))
          | have hx := (hb8.block w3.heap.size (by first | (simp; done) | omega | (simp; omega))).trans hx9
        exact ⟨_, _, rows, rfl, rfl, heap_set2 hx, (hL2.base (by first | omega | (simp; omega))).set2_far hx (by decide) (by decide) _ _, set2_below hbS8 (by first | omega | (simp; omega)), by first | omega | (simp; omega)⟩
    · have e1 := eq_false hlt
      have e2 := eq_false (show ¬ (len0 xss : Int) < (len0 yss : Int) by omega)
      have HLe := Lib.hid hLe
      clear hlt hLe
      go_region_held3 (fun w' => Below (w.heap.size + 3) W w' ∧ ∀ z : Addr, z.block < w.heap.size + 3 → w'.cell? z = W.cell? z)
        ((refine (fun h => ⟨h, pcell h⟩) ?_; repeat (first | assumption | exact Below.refl _ _ | (refine Below.drew ?_) | (refine Below.alloc ?_ (by first | omega | (simp; omega) | exact Nat.le_trans hsW (Below.size (by assumption)) | (simp only [World.size_drew, World.size_alloc]; exact Nat.le_trans hsW (Nat.le_succ_of_le (Below.size (by assumption))))) _) | (refine Below.setCell ?_ (by first | omega | (simp; omega) | exact Nat.le_trans hsW (Below.size (by assumption))) _))))
        (first
          | (go_at_call 66; (with_reducible refine (RLONG_any r (some ad) n c xss _ B ?_ ?_ hn).mono ?_); (exact Below.ge ‹Below (w.heap.size + 3) W _ ∧ _› hsW (by omega)); (exact HRx.out.below ((‹Below (w.heap.size + 3) W _ ∧ _›).1.mono (by omega)) (Nat.le_refl _)); rintro e w7 ⟨rfl, hb7⟩; have hbS := Below.next (‹Below (w.heap.size + 3) W _ ∧ _›).1 hsW hb7; have hz7 := pcell hb7; have hy7 := fun b o => (bcell hb7).2 b o; have hs7 := hb7.size; (try simp only [World.size_alloc, World.size_drew, Nat.add_one_le_iff] at hs7); (try have hk7 : w3.heap.size < w7.heap.size := by omega); (first | have hx9 := (hb7.block w3.heap.size (by omega)).trans hx9 | have hx9 := (hb7.block w3.heap.size (by simp)).trans (heap_alloc_new w3 (.cells #[.int .i64 0, .slice none 0 0] 24)) | skip))
          | (go_at_call 66; (with_reducible refine (RLONG_any r (some ad') n c' yss _ B ?_ ?_ hn).mono ?_); (exact Below.ge ‹Below (w.heap.size + 3) W _ ∧ _› hsW (by omega)); (exact HRy.out.below ((‹Below (w.heap.size + 3) W _ ∧ _›).1.mono (by omega)) (Nat.le_refl _)); rintro e w7 ⟨rfl, hb7⟩; have hbS := Below.next (‹Below (w.heap.size + 3) W _ ∧ _›).1 hsW hb7; have hz7 := pcell hb7; have hy7 := fun b o => (bcell hb7).2 b o; have hs7 := hb7.size; (try simp only [World.size_alloc, World.size_drew, Nat.add_one_le_iff] at hs7); (try have hk7 : w3.heap.size < w7.heap.size := by omega); (first | have hx9 := (hb7.block w3.heap.size (by omega)).trans hx9 | have hx9 := (hb7.block w3.heap.size (by simp)).trans (heap_alloc_new w3 (.cells #[.int .i64 0, .slice none 0 0] 24)) | skip))
          | (go_at_call 67; (with_reducible refine (REMPTY_any r n (len0 xss) ?_ ?_ _).mono ?_); (omega); (omega); rintro e w8 ⟨v8, rfl, ho8, hb8⟩; obtain ⟨A8, c8, rfl, _, _⟩ := ho8.form; have hbS8 := Below.next (‹Below (w.heap.size + 3) W _ ∧ _›).1 hsW hb8; have hz8 := pcell hb8; have hy8 := fun b o => (bcell hb8).2 b o; have hs8 := hb8.size; (try simp only [World.size_alloc, Nat.add_one_le_iff] at hs8)))
      all_goals (go_wp2_with fail; go_meet)
      all_goals rw [HLe.out]
      · obtain ⟨rows, hL2⟩ := ho8
        have hq8 := hbS8.size
        have hq7 := hbS.size
        have hq3 := hS3.size
        exact ⟨w8.heap.size, _, rows, rfl, rfl, heap_alloc_new _ _, (hL2.alloc _).base (by first | omega | (simp; omega)), hbS8.alloc (by omega) _, by omega⟩
      all_goals
        obtain ⟨rows, hL2⟩ := ho8
        have hq8 := hbS8.size
        have hq7 := hbS.size
        have hq3 := hS3.size
        first
          | have hx := (hb8.block _ (by simp)).trans (heap_alloc_new _ (.cells #[.int .i64 0, .slice none 0 0] 24))
          | have hx := (hb8.block _ (by first | (simp; done) | omega | (simp; omega))).trans ((hb7.block _ (by simp)).trans (heap_alloc_new _ (.cells #[.int .i64 0, .slice none 0 0] 24)))
          | have hx := (hb8.block w3.heap.size (by first | (simp; done) | omega | (simp; omega))).trans hx9
        exact ⟨_, _, rows, rfl, rfl, heap_set2 hx, (hL2.base (by first | omega | (simp; omega))).set2_far hx (by decide) (by decide) _ _, set2_below hbS8 (by first | omega | (simp; omega)), by first | omega | (simp; omega)⟩
  case rest =>
    obtain ⟨g, V, rows, rfl, rfl, hbox, hL, hb, hg⟩ := hcut
    obtain ⟨AV, cV, hVe, hcn1, hcn2⟩ := own_form hL.out.outer
    rw [zeroS_length] at hVe hcn1
    subst hVe
    obtain ⟨gv, hgv⟩ : ∃ gv, AV = some ⟨gv, 0, none⟩ := by
      have h1 := hL.out.outer
      rw [zeroS_length] at h1
      obtain ⟨gv, cap, e, _⟩ := own_slot h1 hn
      exact ⟨gv, by injection e⟩
    subst hgv
    obtain ⟨Y, hY⟩ : ∃ Y, clipS T = Y := ⟨_, rfl⟩
    have HYe : Hid (∀ a i, a < n → i < L → elOf (rowOf Y a) i = clipV (elOf (rowOf T a) i)) := fun a i ha hi => by rw [← hY]; exact clipS_el (by rw [HTl.out]; exact ha) (by rw [HTm.out a ha]; exact hi)
    rw [hY] at HY HYm
    have HYD := Lib.hid hY
    clear hY
    have HF0 : Hid (∃ zss, PartOf Y zss L (fun a _ => a < 0) ∧ FillI (w.heap.size + 3) W g (.int .i64 r) gv n cV rows wc zss) := ⟨_, PartOf.start Y _ (fun _ _ _ _ => by omega), ⟨hb.out, hbox.out, by rw [HY.out]; exact hL.out, hg⟩⟩
    have hz0 := pcell hb.out
    clear hbox hL hb
    go_wp2_with fail
    clear hz0
    go_loopw [10, 11] (fun s i wr => ∃ k : Nat, k ≤ n ∧ i = .int .i64 k ∧ s = .int .i64 (cntK T k 0) ∧ Hid (∃ zss, PartOf Y zss L (fun a _ => a < k) ∧ FillI (w.heap.size + 3) W g (.int .i64 r) gv n cV rows wr zss)) (fun _ i _ => n - (intOf i).toNat)
    case atStart => exact ⟨0, Nat.zero_le _, rfl, by rw [cntK_zero], HF0.out⟩
    case round =>
      obtain ⟨k, hk, rfl, rfl, hFz⟩ := hrel
      by_cases hlt : k < n
      · have hkx : Hid (k < xss.length) := by show _ < _; have := hl.out; omega
        have hky : Hid (k < yss.length) := by show _ < _; have := hl'.out; omega
        obtain ⟨A3', n3', c3', hadB, hcell0, hn3', hc3', hi⟩ := hh.out.row hlt
        obtain ⟨A4', n4', c4', hadB', hcell0', hn4', hc4', hi'⟩ := hh'.out.row hlt
        obtain rfl : n3' = len0 xss := hi.1.symm.trans (hok.out.row hkx.out).1
        obtain rfl : n4' = len0 yss := hi'.1.symm.trans (hok'.out.row hky.out).1
        have hx' := Lib.hid hi
        have hy' := Lib.hid hi'
        have HC0 := Lib.hid hcell0
        have HC0' := Lib.hid hcell0'
        clear hi hi' hcell0 hcell0'
        unfold maxLen at hc3' hc4'
        have hzo : ∀ p : Addr, p.block < w.heap.size + 3 → wr.cell? p = W.cell? p := by obtain ⟨_, _, hF⟩ := hFz.out; exact pcell hF.below
        have hk0 : (0 : Int) ≤ (k : Int) := by omega
        have hkn : (k : Int) < (n : Int) := by omega
        go_wp2_with fail
        clear hzo
        obtain ⟨wo, hwo⟩ : ∃ wo : World, wo = wr := ⟨_, rfl⟩
        rw [← hwo] at hFz ⊢
        clear hwo
        go_loopw [10, 12] (fun s i wi => ∃ j : Nat, j ≤ L ∧ i = .int .i64 j ∧ s = .int .i64 (cntK T k j) ∧ Hid (∃ zss, PartOf Y zss L (fun a i => a < k ∨ (a = k ∧ i < j)) ∧ FillI (w.heap.size + 3) W g (.int .i64 r) gv n cV rows wi zss)) (fun _ i _ => L - (intOf i).toNat)
        case atStart => exact ⟨0, Nat.zero_le _, rfl, rfl, by obtain ⟨zss, hP, hF⟩ := hFz.out; exact ⟨zss, hP.weaken (fun a i _ hi h => by omega), hF⟩⟩
        case round =>
          obtain ⟨j, hj, rfl, rfl, hiz⟩ := hrel
          obtain ⟨zss, hP0, hi0⟩ := hiz.out
          have hP := Lib.hid hP0
          have hi := Lib.hid hi0
          clear hP0 hi0 hiz
          have hg0 := own_cell1 hi.out.box 0
          have hg1 := own_cell1 hi.out.box 1
          simp at hg0 hg1
          have hZl : zss.length = n := hP.out.len.trans HY.out
          have hZ0 : len0 zss = L := hP.out.rows 0 (by rw [HY.out]; exact hn)
          have HZ0 := Lib.hid hZ0
          have HZR : Hid (RowsAt wr wr.heap.size (some ⟨gv, 0, none⟩) n zss) := OwnRows.rows ⟨rows, hi.out.own⟩
          clear hZl hZ0
          by_cases hjl : j < L
          · go_wp2_with fail
            refine (RLONG_any r (some ⟨gv, 0, none⟩) n cV zss _ wr.heap.size (Nat.le_refl _) HZR.out hn).mono ?_
            rw [HZ0.out]
            rintro e w4 ⟨rfl, hb4⟩
            have hi4 := Lib.hid (hi.out.next hsW hb4)
            have hb4B := (hbW.mono hB).trans (hi4.out.below.mono (show B ≤ w.heap.size + 3 by omega))
            clear hg0 hg1 HZR
            have hzd4 := pcell hi4.out.below
            have hcd4 := (hb4B.cell (p := ad.add k) (by rw [block_of_add]; omega)).trans HC0.out
            have hcd4' := (hb4B.cell (p := ad'.add k) (by rw [block_of_add]; omega)).trans HC0'.out
            have hxd := Lib.hid (hx'.out.below hb4B (Nat.le_refl _))
            have hyd := Lib.hid (hy'.out.below hb4B (Nat.le_refl _))
            have hbx : -8388608 ≤ elOf (rowOf xss k) j ∧ elOf (rowOf xss k) j ≤ 8388607 := by
              by_cases h : j < len0 xss
              · exact hok.out.el hkx.out h
              · rw [elOf_ge (by rw [(hok.out.row hkx.out).1]; omega)]; omega
            have hby : -8388608 ≤ elOf (rowOf yss k) j ∧ elOf (rowOf yss k) j ≤ 8388607 := by
              by_cases h : j < len0 yss
              · exact hok'.out.el hky.out h
              · rw [elOf_ge (by rw [(hok'.out.row hky.out).1]; omega)]; omega
            have HRX : Hid (∀ q, Calls Try.prog 95 #[.slice A3' (len0 xss) c3', .int .i64 j] (w4.drewN q) fun e w' => e = .returned (.int .i64 (elOf (rowOf xss k) j)) ∧ ∃ q', w' = (w4.drewN q).drewN q') := fun q => (RAT_any A3' _ c3' j _ _ B hn3' (by omega) (hxd.out.below (belowN (Below.refl _ _) q) (Nat.le_refl _))).mono fun e w' h => ⟨h.1, 0, h.2.symm⟩
            have HRY : Hid (∀ q, Calls Try.prog 95 #[.slice A4' (len0 yss) c4', .int .i64 j] (w4.drewN q) fun e w' => e = .returned (.int .i64 (elOf (rowOf yss k) j)) ∧ ∃ q', w' = (w4.drewN q).drewN q') := fun q => (RAT_any A4' _ c4' j _ _ B hn4' (by omega) (hyd.out.below (belowN (Below.refl _ _) q) (Nat.le_refl _))).mono fun e w' h => ⟨h.1, 0, h.2.symm⟩
            have HE : Hid (elOf (rowOf Y k) j = clipV (elOf (rowOf xss k) j + elOf (rowOf yss k) j)) := by show _ = _; rw [HYe.out k j hlt hjl, HTe.out k j hlt hjl]
            have HK : Hid (cntK T k (j + 1) = cntK T k j + clipN (elOf (rowOf xss k) j + elOf (rowOf yss k) j)) := by show _ = _; rw [cntK_step (by rw [HTm.out k hlt]; exact hjl), HTe.out k j hlt hjl]
            obtain ⟨x, hx⟩ : ∃ x, elOf (rowOf xss k) j = x := ⟨_, rfl⟩
            obtain ⟨y, hy⟩ : ∃ y, elOf (rowOf yss k) j = y := ⟨_, rfl⟩
            rw [hx] at HRX HE HK hbx
            rw [hy] at HRY HE HK hby
            obtain ⟨bx1, bx2⟩ := hbx
            obtain ⟨by1, by2⟩ := hby
            have HW : Hid (IntKind.i64.wrap (x + y) = x + y) := IntWalk.i64_in _ (by omega)
            have HCL := Lib.hid (fun w => RCLIP_any (x + y) w)
            obtain ⟨v, hv⟩ : ∃ v, clipV (x + y) = v := ⟨_, rfl⟩
            have hqb := clipN_bd (x + y)
            obtain ⟨q, hq9⟩ : ∃ q, clipN (x + y) = q := ⟨_, rfl⟩
            rw [hv] at HE HCL
            rw [hq9] at HK HCL hqb
            obtain ⟨qb1, qb2⟩ := hqb
            have hcb := cntK_bd (T := T) (m := L) (k := k) (j := j) HTr.out (by rw [HTl.out]; exact hn16) (by rw [HTl.out]; omega) (by omega)
            obtain ⟨cc, hcc⟩ : ∃ cc, cntK T k j = cc := ⟨_, rfl⟩
            rw [hcc] at HK hcb ⊢
            obtain ⟨cb1, cb2⟩ := hcb
            clear hx hy hv hq9 hcc
            have hkY : k < Y.length := by rw [HY.out]; exact hlt
            obtain ⟨b', cap, hrk, hcap1, hcap2, -, hn3, hc3⟩ := hi4.out.slot (by rw [hP.out.len]; exact hkY) (hP.out.rows k hkY) (by omega)
            have HR := Lib.hid hrk
            have HkY := Lib.hid hkY
            have hj0 : (0 : Int) ≤ (j : Int) := by omega
            have hjn : (j : Int) < (L : Int) := by omega
            clear hrk hkY
            have hwo := HW.out
            go_wp2_with fail
            go_quiet ((first
              | (go_at_call 95; (with_reducible refine Calls.quiet_of (HRX.out _)))
              | (go_at_call 95; (with_reducible refine Calls.quiet_of (HRY.out _)))
              | (go_at_call 94; exact Calls.quiet_of ((HCL.out _).mono fun e w' h => ⟨h.1, 0, h.2.symm⟩))))
            have hi5 := Lib.hid (hi4.out.drewN nq)
            have hS5 := hi5.out.cells HR.out
            obtain ⟨⟨vo, hvo⟩, hfz⟩ := hi5.out.elem HR.out hjl
            have HI6 := Lib.hid (hi5.out.set_ HR.out j v)
            have HP6 := Lib.hid (hP.out.set_ (done' := fun a i => a < k ∨ (a = k ∧ i < j + 1)) HkY.out hjl HE.out (fun a i ha hi h => by omega))
            clear hzd4 hcd4 hcd4' hwo
            go_wp2_with fail
            go_roundw
            case rel => exact ⟨j + 1, by omega, by go_num, by rw [HK.out], _, HP6.out, HI6.out⟩
            case measure => simp [intOf]; omega
          · obtain rfl : j = L := by omega
            go_wp2_with fail
            refine (RLONG_any r (some ⟨gv, 0, none⟩) n cV zss _ wr.heap.size (Nat.le_refl _) HZR.out hn).mono ?_
            rw [HZ0.out]
            rintro e w4 ⟨rfl, hb4⟩
            have hi4 := Lib.hid (hi.out.next hsW hb4)
            clear hg0 hg1 HZR
            rw [cntK_next (by rw [HTl.out]; exact hlt) (HTm.out k hlt)]
            go_wp2_with fail
            go_roundw
            case rel => exact ⟨k + 1, by omega, by go_num, rfl, zss, hP.out.weaken (fun a i _ hi h => by omega), hi4.out⟩
            case measure => simp [intOf]; omega
      · obtain rfl : k = n := by omega
        obtain ⟨zss, hP, hF0⟩ := hFz.out
        have hF := Lib.hid hF0
        have he := hP.all HYm.out (fun a i ha _ => by rw [← HY.out]; exact ha)
        subst he
        clear hF0 hFz hP HF0
        have hzo := pcell hF.out.below
        have hcg0 := own_cell1 hF.out.box 0
        have hcg1 := own_cell1 hF.out.box 1
        simp at hcg0 hcg1
        have hcr0 : wr.cell? ⟨w.heap.size + 1 + 1, 0, none⟩ = some (.int .i64 0) := by rw [hzo _ (by simp), hcW _ _ (by simp)]; simp [go_sem]
        have hcr1 : wr.cell? ⟨w.heap.size + 1 + 1, 1, none⟩ = some (.slice none 0 0) := by rw [hzo _ (by simp), hcW _ _ (by simp)]; simp [go_sem]
        have hfr := fun b o h => ((bcell hF.out.below).2 b o h)
        rw [cntK_all HTl.out]
        go_wp2_with fail
        refine end_snd3 rfl rfl rfl hcr0 hcr1 ?_
        have hI9 := hF.out.own
        rw [HYD.out]
        have HY9 := HY.out
        exact ⟨_, by simp [HY9], ⟨rows, ((hI9.set_below (p := ⟨w.heap.size + 1 + 1, 0, none⟩) (by simp) _).set_below (p := ⟨w.heap.size + 1 + 1, 1, none⟩) (by simp) _).base (show w.heap.size ≤ w.heap.size + 3 by omega)⟩, set2_below (hbW.trans (hF.out.below.mono (by omega))) (by omega)⟩
end Go.Proofs.Ytpnbkkpbgpcgiaa
