/- The law of takes: what is built sounds as its pieces, joined. -/
import Derived.Test.YtkmcohnhanphdaaGreatDoorVh
import Derived.Test.YtkmcohnhanphdaaGreatDoorBd
import Derived.Test.YtkmcohnhanphdaaGreatDoorRr
import Derived.Test.YtkmcohnhanphdaaGreatDoorCut
import Derived.Test.YtkmcohnhanphdaaGreatDoorJoin
import Derived.Test.YtkmcohnhanphdaaGreatDoorSilence
import Derived.Deep.DeepCutAuto
import Derived.Deep.RegionHeld3
import Derived.Deep.DrawnRows
set_option linter.unusedSimpArgs false
set_option linter.unusedVariables false
namespace Go.Proofs.YtkmcohnhanphdaaGreatDoor
open Go.RowKit Go.Dw
attribute [local go_sem ↓] Go.wp_at_zero Go.wp_at_succ
set_option maxRecDepth 100000 in
set_option maxHeartbeats 16000000 in
theorem TBUILT_true (A A1 A2 A3 : Option Addr) (n n1 n2 n3 cap cap1 cap2 cap3 : Nat) (l : List Tk) (lens takes : List Int) (md : List Md) (hz : Hid (∀ t ∈ l, t.media.size ≤ maxLen)) (hzm : Hid (∀ m ∈ md, m.name.size ≤ maxLen)) (w : World) (B : Nat) (hB : B ≤ w.heap.size)
    (hh : Hid (TakesAt w B A n l)) (h1 : Hid (IntsAt w B A1 n1 lens)) (h2 : Hid (IntsAt w B A2 n2 takes)) (hm : Hid (MediaAt w B A3 n3 md)) :
    Calls Tryz.prog 4 #[.slice A n cap, .slice A1 n1 cap1, .slice A2 n2 cap2, .slice A3 n3 cap3] w fun e w' => e = .returned (.bool true) ∧ Below w.heap.size w w' := by
  have hl := Lib.hid hh.out.1
  have hl1 := Lib.hid h1.out.1
  have hl2 := Lib.hid h2.out.1
  have hlm := Lib.hid hm.out.1
  go_enter Tryz.func4, Tryz.ntmps4
  go_wp2_with fail
  refine (MBUILD_any A A1 A2 n n1 n2 cap cap1 cap2 l lens takes hz w B hB hh h1 h2).mono ?_
  rintro e w1 ⟨hb1, hres⟩
  have HB1 := Lib.hid hb1
  clear hb1
  rcases hres with ⟨f, hf0, rfl⟩ | ⟨ch, A', m, c', rfl, hok, hchk, hat⟩
  · have hq : (f != 0) = true := by simpa using hf0
    clear hf0
    obtain ⟨X, g9, hX, hg9, HX, HBX, HSX⟩ := cell_new w1 24 #[.int .i64 0, .int .i64 0, .slice none 0 0]
    obtain ⟨x0, x1, x2, _, _, _⟩ := three_cells HX.out
    go_upto_region 2 with (fail)
    rw [← hX, ← hg9]
    clear hX hg9
    have HBA := Lib.hid (HB1.out.trans (HBX.out.mono HB1.out.size))
    go_wp2_with fail
    refine (TALIVE_any _).mono ?_
    rintro e w9 ⟨rfl, hb9⟩
    go_wp2_with fail
    go_ret
    exact ⟨rfl, HBA.out.trans (hb9.mono HBA.out.size)⟩
  have HOK := Lib.hid hok
  have HAT := Lib.hid hat
  have HED := Lib.hid (chkE_ok hchk)
  clear hok hat hchk
  have hn12 : n2 = n1 := by have := HOK.out.same; have := hl1.out; have := hl2.out; omega
  subst hn12
  have hn60 : n2 ≤ 60 := by have := HOK.out.short; have := hl1.out; omega
  have hn20 : n ≤ 20 := by have := HOK.out.few; have := hl.out; omega
  have hc1 : 1 ≤ ch := by have := HED.out.t1; omega
  have hc2' : ch ≤ 16 := by have := HED.out.t2; omega
  obtain ⟨R, hR⟩ : ∃ R, rowsK l lens takes n2 = R := ⟨_, rfl⟩
  obtain ⟨rate, hrate⟩ : ∃ r, (tkOf l 0).rate = r := ⟨_, rfl⟩
  have HRR : Hid (rowsK l lens takes lens.length = R) := by show _ = _; rw [hl1.out, hR]
  rw [hR] at HAT HED
  rw [hrate] at HED ⊢
  have HCZ : Hid (∀ c ∈ bClips l R ch, CpFits c) := bfits hz.out (fun r hr => by
    have := rows_fit HOK.out n2 (by rw [hl1.out]; exact Nat.le_refl _) r (by rw [hR]; exact hr)
    have := hl.out
    omega) ch
  have HC1 : Hid (∀ c ∈ bClips l R ch, c.env.length = 1) := bone ch
  clear hR hrate
  obtain ⟨X, g9, hX, hg9, HX, HBX, HSX⟩ := cell_new w1 24 #[.int .i64 rate, .int .i64 (ch : Int), .slice A' m c']
  obtain ⟨x0, x1, x2, _, _, _⟩ := three_cells HX.out
  go_upto_region 2 with (fail)
  rw [← hX, ← hg9]
  have HG9 := Lib.hid hg9
  have hg9X := blk_lt HX.out
  have HBWX := Lib.hid (HB1.out.trans (HBX.out.mono HB1.out.size))
  have hwX := HBWX.out.size
  have hX1 := HBX.out.size
  clear hX hg9
  go_wp2_with fail
  refine (ERENDER_one rate (ch : Int) A' A3 m n3 c' cap3 (bClips l R ch) md HCZ hzm HC1 X w1.heap.size hX1 (Lib.hid (HAT.out.below HBX.out (Nat.le_refl _))) (Lib.hid ((hm.out.below HBWX.out hB).mono (by have := HB1.out.size; omega)))).mono ?_
  rintro e w2 ⟨hb2, hres⟩
  have HB2 := Lib.hid hb2
  have hX2 := hb2.size
  have x0 := (hb2.cell (p := ⟨g9, 0, none⟩) hg9X).trans x0
  have x1 := (hb2.cell (p := ⟨g9, 1, none⟩) hg9X).trans x1
  have x2 := (hb2.cell (p := ⟨g9, 2, none⟩) hg9X).trans x2
  have HX2 := Lib.hid ((hb2.block g9 hg9X).trans HX.out)
  clear hb2
  rcases hres with ⟨f, hf0, rfl⟩ | ⟨v, rfl, _, hmok, hown⟩
  · have hq : (f != 0) = true := by simpa using hf0
    clear hf0
    obtain ⟨X3, g11, hX3, hg11, HX3, HBX3, HSX3⟩ := cell_new w2 33 #[.int .i64 0, .slice none 0 0]
    obtain ⟨z0, z1, _, _⟩ := two_cells HX3.out
    go_upto_region 5 with (fail)
    rw [← hX3, ← hg11]
    clear hX3 hg11
    have HBA := Lib.hid (HBWX.out.trans ((HB2.out.trans (HBX3.out.mono hX2)).mono hwX))
    go_wp2_with fail
    refine (TALIVE_any _).mono ?_
    rintro e w9 ⟨rfl, hb9⟩
    go_wp2_with fail
    go_ret
    exact ⟨rfl, HBA.out.trans (hb9.mono HBA.out.size)⟩
  have HMOK := Lib.hid hmok
  have HRN : Hid (renN md (bClips l R ch) ch = 0) := by
    have h9 := renN_zero (cs := bClips l R ch) HOK.out HMOK.out ch
    rw [HRR.out] at h9
    exact h9
  rw [Int.toNat_natCast] at hown ⊢
  rw [HRN.out]
  obtain ⟨AR, cR, hve, hcR1, hcR2⟩ := hown.form
  subst hve
  obtain ⟨nR, hnR⟩ : ∃ nR, (renS md (bClips l R ch) ch).length = nR := ⟨_, rfl⟩
  rw [hnR] at hown ⊢
  have HGOT := Lib.hid hown
  have HNR := Lib.hid hnR
  clear hmok hown hnR hcR1 hcR2
  obtain ⟨X3, g11, hX3, hg11, HX3, HBX3, HSX3⟩ := cell_new w2 33 #[.int .i64 rate, .slice AR nR cR]
  have hg92 := blk_lt HX2.out
  go_upto_region 5 with (fail)
  rw [← hX3, ← hg11]
  have HG11 := Lib.hid hg11
  have hg11X := blk_lt HX3.out
  have HX93 := Lib.hid ((HBX3.out.block g9 hg92).trans HX2.out)
  have HGOT3 := Lib.hid (HGOT.out.below HBX3.out)
  have hX3s := HBX3.out.size
  have HBW3 := Lib.hid (HBWX.out.trans ((HB2.out.trans (HBX3.out.mono hX2)).mono hwX))
  clear hX3 hg11 x0 x1 x2 HX2
  go_wp2_with fail
  refine (TALIVE_any _).mono ?_
  rintro e w9 ⟨rfl, hb9⟩
  have HX99 := Lib.hid ((hb9.block g9 (blk_lt HX93.out)).trans HX93.out)
  have HX119 := Lib.hid ((hb9.block g11 hg11X).trans HX3.out)
  have HGOT9 := Lib.hid (HGOT3.out.below hb9)
  have HBW9 := Lib.hid (HBW3.out.trans (hb9.mono HBW3.out.size))
  have hs9 := hb9.size
  have hb9 := Lib.hid hb9
  obtain ⟨x0, x1, x2, _, _, _⟩ := three_cells HX99.out
  go_wp2_with fail
  refine (SILENCE_ok rate ch 0 (Lib.hid HED.out.rate_) hc1 hc2' (by omega) w9).mono ?_
  rintro e w4 ⟨V, rfl, hsil, hb4⟩
  obtain ⟨AV, cV, hve, _, _⟩ := hsil.form
  subst hve
  have hlz : (zeroS ch 0).length = ch := by simp [zeroS]
  rw [hlz] at hsil ⊢
  clear hlz
  have HX94 := Lib.hid ((hb4.block g9 (blk_lt HX99.out)).trans HX99.out)
  have HX114 := Lib.hid ((hb4.block g11 (blk_lt HX119.out)).trans HX119.out)
  have HGOT4 := Lib.hid (HGOT9.out.below hb4)
  have HBW4 := Lib.hid (HBW9.out.trans (hb4.mono HBW9.out.size))
  have hs4 := hb4.size
  have HSIL := Lib.hid hsil
  clear hsil hb4 x0 x1 x2
  obtain ⟨X5, g13, hX5, hg13, HX5, HBX5, HSX5⟩ := cell_new w4 33 #[.int .i64 rate, .slice AV ch cV]
  go_upto_region 10 with (fail)
  rw [← hX5, ← hg13]
  have HG13 := Lib.hid hg13
  clear hX5 hg13
  have hg13X := blk_lt HX5.out
  have hg94 := blk_lt HX94.out
  have hg114 := blk_lt HX114.out
  have HX95 := Lib.hid ((HBX5.out.block g9 hg94).trans HX94.out)
  have HX115 := Lib.hid ((HBX5.out.block g11 hg114).trans HX114.out)
  have hg9g : g9 < g13 := by have := HG13.out; omega
  have hg11g : g11 < g13 := by have := HG13.out; omega
  have hw13 : w.heap.size ≤ g13 := by have := HG13.out; have := HBW4.out.size; omega
  have HGR : Hid (RowsAt X5 g13 AR nR (renS md (bClips l R ch) ch)) := by
    have h9 := HGOT4.out.rows.below HBX5.out (Nat.le_refl _)
    rw [← HG13.out] at h9
    exact h9
  have HBW5 := Lib.hid (HBW4.out.trans (HBX5.out.mono HBW4.out.size))
  have HWANT0 : Hid (OwnRows X5 0 (.slice AV ch cV) (wantK md l lens takes ch 0)) := by
    show OwnRows _ _ _ _
    rw [wantK_zero]
    exact (HSIL.out.below HBX5.out).base (Nat.zero_le _)
  clear HGOT HGOT3 HGOT9 HGOT4 HSIL HBX5 HX94 HX114 HX99 HX119 HX93 HX3 HX
  go_wp2_with fail
  go_loopw [69] (fun i wr => ∃ (k : Nat) (AV : Option Addr) (cV : Nat), k ≤ n2 ∧ i = .int .i64 k ∧ Hid (Below g13 X5 wr) ∧ Hid (wr.heap[g13]? = some (.cells #[.int .i64 rate, .slice AV ch cV] 33 (0, 0))) ∧ Hid (OwnRows wr 0 (.slice AV ch cV) (wantK md l lens takes ch k)) ∧ Hid (InK md l lens takes ch k)) (fun i _ => n2 - (intOf i).toNat)
  case atStart => exact ⟨0, AV, cV, Nat.zero_le _, rfl, Below.refl _ _, HX5.out, HWANT0.out, fun t _ j hj => by omega⟩
  case round =>
    clear HX5 HWANT0
    obtain ⟨k, AV, cV, hk, rfl, HB, HBOX, HWANT, HIN⟩ := hrel
    have HBW := Lib.hid (HBW5.out.trans (HB.out.mono hw13))
    have hszr := HBW.out.size
    have hg13r := blk_lt HBOX.out
    have HX9 := Lib.hid ((HB.out.block g9 hg9g).trans HX95.out)
    have HX11 := Lib.hid ((HB.out.block g11 hg11g).trans HX115.out)
    by_cases hlt : k < n2
    · have hk0 : (0 : Int) ≤ (k : Int) := by omega
      have hkn : (k : Int) < (n2 : Int) := by omega
      obtain ⟨ad2, rfl⟩ := h2.out.addr (by omega)
      obtain ⟨ad1, rfl⟩ := h1.out.addr (by omega)
      have hc2 := ((h2.out.below HBW.out hB).at_ hlt).2
      have hc1' := ((h1.out.below HBW.out hB).at_ hlt).2
      have hb1' := (h1.out.at_ hlt).1
      obtain ⟨f1, f2, f3, f4, f5, f6⟩ := frm_rng HOK.out (i := k) (by rw [hl1.out]; exact hlt)
      obtain ⟨tn, htn⟩ : ∃ tn : Nat, elOf takes k = (tn : Int) := ⟨(elOf takes k).toNat, by omega⟩
      have htnn : tn < n := by have := hl.out; omega
      have hst1 := (HOK.out.starts _ (tk_mem (l := l) (k := tn) (by rw [hl.out]; exact htnn))).1
      obtain ⟨b, o, A9, n9, c9, e9, hb9', ⟨k0, k1, k2, k3⟩, _, _, hst⟩ := (hh.out.below HBW.out hB).2 tn htnn
      subst e9
      have hk9 : k < n9 := by have := hst.1; have := hl1.out; omega
      obtain ⟨ad9, rfl⟩ := hst.addr (by omega)
      have hc3 := (hst.at_ hk9).2
      have hk9n : (k : Int) < (n9 : Int) := by omega
      have htn0 : (0 : Int) ≤ (tn : Int) := by omega
      have htn1 : (tn : Int) < (n : Int) := by omega
      have HJN := Lib.hid (join_step (rate := rate) (ch := ch) (xss := sndOf md (tkOf l (elOf takes k).toNat).media) HOK.out (track_smp HMOK.out) HED.out.rate_ hc1 hc2' (by rw [hl1.out]; exact hlt) HIN.out (sum_le HOK.out hc1 (by rw [HRR.out]; exact HED.out) (by rw [hl1.out]; omega)) rfl)
      have hfr : frm l takes k = elOf (tkOf l tn).starts k := by unfold frm; rw [htn, Int.toNat_natCast]
      rw [hfr] at f1 f2 HJN
      rw [htn] at hc2 HJN
      rw [Int.toNat_natCast] at HJN
      obtain ⟨s, hs⟩ : ∃ s, (tkOf l tn).media = s := ⟨_, rfl⟩
      obtain ⟨p, hp⟩ : ∃ p, elOf (tkOf l tn).starts k = p := ⟨_, rfl⟩
      obtain ⟨q, hq⟩ : ∃ q, elOf lens k = q := ⟨_, rfl⟩
      rw [hs] at k0 HJN
      rw [hp] at f1 f2 HJN hc3
      rw [hq] at f3 f4 HJN hc1'
      clear hs hp hq hfr hst1 hst htn f5 f6
      have hwf := IntWalk.i64_in (p + q) (by omega)
      go_upto_region 16 with (fail)
      obtain ⟨N, hN⟩ : ∃ N, N = wr.heap.size := ⟨_, rfl⟩
      have hsW : N ≤ wr.heap.size := by omega
      have hBN : B ≤ N := by omega
      have hwN : w.heap.size ≤ N := by omega
      have hbN : b < N := by omega
      have hadN : (ad1.add k).block < N := by rw [block_of_add]; omega
      have HN3 : Hid (n3 ≤ 1000000) := by show _ ≤ _; have := HMOK.out.few; have := hlm.out; omega
      have hbW := HBW.out
      obtain ⟨⟨r5, xs5, f5⟩, hF⟩ : ∃ F, cutS (rateOf md s) (sndOf md s) p (p + q) = F := ⟨_, rfl⟩
      have HF := Lib.hid hF
      have HCUT := Lib.hid (fun (A5 : Option Addr) (n5 c5 : Nat) (w9 : World) (hB9 : B ≤ w9.heap.size) (h9 : RowsAt w9 B A5 n5 (sndOf md s)) => (show Calls Tryz.prog 13 #[.agg #[.int .i64 (rateOf md s), .slice A5 n5 c5], .agg #[.int .i64 p, .int .i64 (p + q)]] w9 (OutS w9 r5 xs5 f5) from by
        have := CUT_any (rateOf md s) A5 n5 c5 p (p + q) (sndOf md s) w9 B hB9 h9
        rw [hF] at this
        exact this))
      clear hF
      go_cut [17, 18] (fun s17 s18 wx => ∃ (g : Nat) (V : Value), s17 = .pointer (some ⟨g, 0, none⟩) ∧ s18 = .int .i64 f5 ∧ Hid (wx.heap[g]? = some (.cells #[.int .i64 r5, V] 33 (0, 0))) ∧ Hid (OwnRows wx 0 V xs5) ∧ Hid (Below N wr wx))
      case first =>
        go_region_held3 (fun w' => Below N wr w' ∧ w'.cell? ⟨b, o + tn * 4, none⟩ = some (.string s) ∧ w'.cell? (ad1.add k) = some (.int .i64 q))
          ((refine (fun h => ⟨h, (pcell h ⟨b, o + tn * 4, none⟩ hbN).trans k0, (pcell h (ad1.add k) hadN).trans hc1'⟩) ?_; repeat (first | assumption | exact Below.refl _ _ | (refine Below.drew ?_) | (refine Below.alloc ?_ (by first | omega | (simp; omega) | exact Nat.le_trans hsW (Below.size (by assumption)) | (simp only [World.size_drew, World.size_alloc]; exact Nat.le_trans hsW (Nat.le_succ_of_le (Below.size (by assumption))))) _) | (refine Below.setCell ?_ (by first | omega | (simp; omega) | exact Nat.le_trans hsW (Below.size (by assumption))) _))))
          (first
            | (go_at_call 14; refine (MEDIUMOF_any A3 n3 cap3 md s HN3 _ B (Below.ge ‹Below N wr _ ∧ _› hsW hBN) (Lib.hid (hm.out.below (Below.via hbW ‹Below N wr _ ∧ _› hwN) hB))).mono ?_; rintro e w1' ⟨hb1, A5, n5, c5, rfl, hn5, hc5, hr5⟩; have hbS := Below.next (‹Below N wr _ ∧ _›).1 hsW hb1; have hz1 := pcell hb1; have hy1 := fun b o => (bcell hb1).2 b o; have hs1 := hb1.size; (try simp only [World.size_alloc, World.size_drew, Nat.add_one_le_iff] at hs1); have hB1 := Nat.le_trans hBN (Nat.le_trans hsW hbS.size))
            | (go_at_call 13; refine (HCUT.out A5 n5 c5 _ (Below.ge ‹Below N wr _ ∧ _› hsW hBN) (hr5.below (B' := B) (by first | exact Below.refl _ _ | exact (Below.refl _ _).alloc hB1 _) (Nat.le_refl _))).mono ?_; rintro e w2' ⟨v2, rfl, ho2, hb2⟩; obtain ⟨A2z, c2z, rfl, _, _⟩ := ho2.form; have hbS2 := Below.next (‹Below N wr _ ∧ _›).1 hsW hb2; have hz2 := pcell hb2; have hy2 := fun b o => (bcell hb2).2 b o; have hs2 := hb2.size; (try simp only [World.size_alloc, World.size_drew, Nat.add_one_le_iff] at hs2)))
        all_goals (go_wp2_with fail; go_meet)
        · obtain ⟨rows, hL2⟩ := ho2
          exact ⟨w2'.heap.size, _, rfl, rfl, heap_alloc_new _ _, ⟨rows, (hL2.alloc _).base (Nat.zero_le _)⟩, hbS2.alloc (by have := hbS2.size; omega) _⟩
        · obtain ⟨rows, hL2⟩ := ho2
          have hx1 : N ≤ w1'.heap.size := Nat.le_trans hsW hbS.size
          have hb2x := (hb2.block w1'.heap.size (by simp)).trans (heap_alloc_new w1' (.cells #[.int .i64 0, .slice none 0 0] 33))
          exact ⟨w1'.heap.size, _, rfl, rfl, heap_set2 hb2x, ⟨rows, (hL2.base (Nat.zero_le _)).set2_far hb2x (by decide) (by decide) _ _⟩, set2_below hbS2 hx1⟩
        · obtain ⟨rows, hL2⟩ := ho2
          have hb2x := (hb2.block wr.heap.size (by have := hb1.size; simp at this; omega)).trans ((hb1.block wr.heap.size (by simp)).trans (heap_alloc_new wr (.cells #[.int .i64 0, .slice none 0 0] 33)))
          exact ⟨wr.heap.size, _, rfl, rfl, heap_set2 hb2x, ⟨rows, (hL2.base (Nat.zero_le _)).set2_far hb2x (by decide) (by decide) _ _⟩, set2_below hbS2 hsW⟩
      case rest =>
        obtain ⟨g17, V5, rfl, rfl, hbox, hrows, hb⟩ := hcut
        obtain ⟨A5, c5, hve, _, _⟩ := hrows.out.form
        subst hve
        have HBWc := Lib.hid (hbW.trans (hb.out.mono hwN))
        have hg9N : g9 < N := by omega
        have hg11N : g11 < N := by omega
        have hg13N : g13 < N := by omega
        have HX9c := Lib.hid ((hb.out.block g9 hg9N).trans HX9.out)
        have HX13c := Lib.hid ((hb.out.block g13 hg13N).trans HBOX.out)
        have HWc : Hid (OwnRows wc 0 (.slice AV ch cV) (wantK md l lens takes ch k)) := HWANT.out.below (hb.out.mono (by omega))
        have HB0 := Lib.hid (HB.out.trans (hb.out.mono (by omega)))
        clear HCUT HX9 HX11 k0 k1 k2 k3 hc1' hc2 hc3 hwf
        by_cases hf0 : f5 = 0
        case neg =>
          have hq1 : (f5 != 0) = true := by simpa using hf0
          clear hf0
          obtain ⟨z0, z1, _, _⟩ := two_cells hbox.out
          obtain ⟨x0, x1, x2, _, _, _⟩ := three_cells HX9c.out
          go_wp2_with fail
          go_ret
          exact ⟨rfl, HBWc.out⟩
        subst hf0
        obtain ⟨e1, e2, e3, e4⟩ := cut_there HMOK.out HF.out
        subst e1
        subst e2
        have hcl : (cutXs p (p + q) (sndOf md s)).length = (sndOf md s).length := cutXs_length _ _ _
        rw [hcl] at hbox hrows
        obtain ⟨nS, hnS⟩ : ∃ nS, (sndOf md s).length = nS := ⟨_, rfl⟩
        rw [hnS] at hbox hrows HJN
        by_cases hch : nS = ch
        case neg =>
          have hq1 : ((nS : Int) != (ch : Int)) = true := by simp; omega
          clear hch HJN
          obtain ⟨z0, z1, _, _⟩ := two_cells hbox.out
          obtain ⟨x0, x1, x2, _, _, _⟩ := three_cells HX9c.out
          go_wp2_with fail
          go_ret
          exact ⟨rfl, HBWc.out⟩
        subst hch
        have hq1 : ((nS : Int) != (nS : Int)) = false := by simp
        have HJ := Lib.hid (HJN.out rfl e3 e4)
        clear e3 e4 HJN hcl
        obtain ⟨z0, z1, _, _⟩ := two_cells hbox.out
        obtain ⟨x0, x1, x2, _, _, _⟩ := three_cells HX9c.out
        obtain ⟨y0, y1, _, _⟩ := two_cells HX13c.out
        go_wp2_with fail
        refine (JOIN_any r5 r5 AV A5 nS nS cV c5 (wantK md l lens takes nS k) (cutXs p (p + q) (sndOf md s)) wc wc.heap.size (Nat.le_refl _) HWc.out.rows hrows.out.rows).mono ?_
        rw [HJ.out.1]
        rintro e w6 ⟨v6, rfl, ho6, hb6⟩
        obtain ⟨A6, c6, hve, _, _⟩ := ho6.form
        subst hve
        have hwl : (wantK md l lens takes nS (k + 1)).length = nS := by simp [wantK]
        dsimp only at ho6
        rw [hwl] at ho6
        dsimp only
        rw [hwl]
        have hszc := blk_lt HX13c.out
        have HX136 := Lib.hid ((hb6.block g13 hszc).trans HX13c.out)
        have HB6 := Lib.hid (HB0.out.trans (hb6.mono (by omega)))
        clear x0 x1 x2 y0 y1 z0 z1
        obtain ⟨y0, y1, _, _⟩ := two_cells HX136.out
        have HO6 : Hid (OwnRows ((w6.setCell ⟨g13, 0, none⟩ (.int .i64 r5)).setCell ⟨g13, 1, none⟩ (.slice A6 nS c6)) 0 (.slice A6 nS c6) (wantK md l lens takes nS (k + 1))) := by
          obtain ⟨rows, hL6⟩ := ho6
          exact ⟨rows, (hL6.base (Nat.zero_le _)).set2_far HX136.out (by decide) (by decide) _ _⟩
        clear ho6 hb6
        go_wp2_with fail
        go_roundw
        case rel => exact ⟨k + 1, A6, c6, by omega, by go_num, set2_below HB6.out (Nat.le_refl _), heap_set2 HX136.out, HO6.out, HJ.out.2⟩
        case measure => simp [intOf]; omega
    · have HEQ := Lib.hid (want_all (md := md) (cs := bClips l R ch) HOK.out HMOK.out (by rw [hl1.out]; have h9 : k = n2 := (by omega); rw [← h9]; exact HIN.out))
      obtain rfl : k = n2 := by omega
      rw [HRR.out, hl1.out] at HEQ
      have hwl : (wantK md l lens takes ch k).length = ch := by simp [wantK]
      have hnc : nR = ch := by rw [← HNR.out, HEQ.out, hwl]
      subst hnc
      have HG9 := Lib.hid ((HGR.out.below HB.out (Nat.le_refl _)).mono (show g13 ≤ wr.heap.size by omega))
      rw [HEQ.out] at HG9
      have HW9 := Lib.hid HWANT.out.rows
      obtain ⟨z0, z1, _, _⟩ := two_cells HX11.out
      obtain ⟨y0, y1, _, _⟩ := two_cells HBOX.out
      go_wp2_with fail
      refine (SAMETRACKS_eq rate AR AV nR cR cV (wantK md l lens takes nR k) wr wr.heap.size (Nat.le_refl _) HG9 HW9).mono ?_
      rintro e w7 ⟨rfl, hb7⟩
      go_wp2_with fail
      go_ret
      exact ⟨rfl, HBW.out.trans (hb7.mono hszr)⟩
end Go.Proofs.YtkmcohnhanphdaaGreatDoor
