/- sound.Resample, where all is right. -/
import Derived.Test.YtpnbkkpbgpcgiaaRes1
import Derived.Test.YtpnbkkpbgpcgiaaRegion
import Derived.Deep.DeepCutAuto
import Derived.Deep.DrawnRows
set_option linter.unusedSimpArgs false
set_option linter.unusedVariables false
namespace Go.Proofs.Ytpnbkkpbgpcgiaa
open Go.RowKit Go.Dw
attribute [local go_sem ↓] Go.wp_at_zero Go.wp_at_succ

set_option maxRecDepth 100000 in
set_option maxHeartbeats 16000000 in
theorem RESAMPLE_ok (r : Int) (ad : Addr) (n c : Nat) (q : Int) (m : Nat) (xss : List (List Int)) (hok : Hid (OkS r xss)) (hc : Hid (chkS r xss = 0)) (hr : Hid (rateB q = true)) (hl : rsN (len0 xss) r q = (m : Int)) (hm9 : m ≤ 100000) (w : World) (B : Nat) (hB : B ≤ w.heap.size) (hh : Hid (RowsAt w B (some ad) n xss)) :
    Calls Try.prog 20 #[.agg #[.int .i64 r, .slice (some ad) n c], .int .i64 q] w (OutS w q (genS (rsV r q) m xss) 0) := by
  have hlx := Lib.hid hh.out.1
  have hn16 : n ≤ 16 := by have := hok.out.few; have := hlx.out; omega
  have hn : 0 < n := by have := hok.out.some; have := hlx.out; omega
  have hq : (chkS r xss != 0) = false := by rw [hc.out]; rfl
  obtain ⟨hr1, hr2⟩ := rateB_yes hok.out.rate
  obtain ⟨hq1, hq2⟩ := rateB_yes hr.out
  have hm := hok.out.long
  obtain ⟨b1, b2, b3, b4⟩ := rs_bd hm hr1 hr2 hq1 hq2
  have HL0 := Lib.hid hl
  have hr0 : ¬ r = 0 := by omega
  have HN := Lib.hid ((rs_wrap hm hr1 hr2 hq1 hq2).trans hl)
  clear hl
  go_enter Try.func20, Try.ntmps20
  go_wp2_with fail
  refine calls_later (w.heap.size + 2) ?_
  intro W hW hsW
  obtain ⟨hcW, hfW⟩ := bcell hW
  simp only [World.size_alloc] at hsW
  have hbW : Below w.heap.size w W := (((Below.refl _ w).alloc (Nat.le_refl _) _).alloc (by simp) _).trans (hW.mono (by omega))
  go_wp2_with (first
    | (go_at_call 37; refine (CHECK_any r _ n c xss _ B (by omega) (hh.out.below hbW hB)).mono ?_; rintro e w1 ⟨rfl, hb1⟩; have hz1 := pcell (hb1.mono hsW))
    | (go_at_call 57; refine (ISRATE_eq _ _ hr _).mono ?_; rintro e w' ⟨rfl, rfl⟩))
  have hbS0 : Below (w.heap.size + 2) W w1 := hb1.mono hsW
  go_region_held3 (fun w' => Below (w.heap.size + 2) W w' ∧ ∀ z : Addr, z.block < w.heap.size + 2 → w'.cell? z = W.cell? z)
    ((refine (fun h => ⟨h, pcell h⟩) ?_; repeat (first | assumption | exact Below.refl _ _ | (refine Below.drew ?_) | (refine Below.alloc ?_ (by first | omega | (simp; omega) | exact Nat.le_trans hsW (Below.size (by assumption)) | (simp only [World.size_drew, World.size_alloc]; exact Nat.le_trans hsW (Nat.le_succ_of_le (Below.size (by assumption))))) _) | (refine Below.setCell ?_ (by first | omega | (simp; omega) | exact Nat.le_trans hsW (Below.size (by assumption))) _))))
    (first | (go_at_call 58; refine (LENGTH_any r _ n c xss _ B (Below.ge ‹Below (w.heap.size + 2) W _ ∧ _› hsW (by omega)) (hh.out.below (Below.via hbW ‹Below (w.heap.size + 2) W _ ∧ _› (by omega)) hB) hn).mono ?_; rintro e w2 ⟨rfl, hb2⟩; have hbS := Below.next (‹Below (w.heap.size + 2) W _ ∧ _›).1 hsW hb2))
  rw [HN.out]
  generalize IntKind.i64.wrap ((len0 xss : Int) * q) = X1
  generalize IntKind.i64.wrap (X1 + r) = X2
  generalize IntKind.i64.wrap (X2 - 1) = X3
  clear hz1 hb1 hb2 HN
  have hz1 := pcell hbS
  go_wp2_with fail
  refine (BLANK_any q n m (by omega) (by omega) _).mono ?_
  rintro e w3 ⟨v3, rfl, ho3, hb3⟩
  obtain ⟨A3, c3, rfl, _, _⟩ := ho3.form
  have hbS3 := Below.next hbS hsW hb3
  have hs3 := hbS3.size
  have hx3 : w.heap.size + 2 ≤ w3.heap.size := by omega
  have hz3 := pcell hbS3
  rw [zeroS_length]
  have hYl : (genS (rsV r q) m xss).length = n := genS_length.trans hlx.out
  have HY := Lib.hid hYl
  obtain ⟨gv, rows, rfl, _, hF0⟩ := FillI.start (o0 := .int .i64 q) (m := m) hYl hbS3 hx3 (by have := ho3.base (show w.heap.size + 2 ≤ w2.heap.size by have := hbS.size; omega); rwa [zeroS_length] at this) hn
  have HF0 := Lib.hid hF0
  have hlt0 : w.heap.size < w3.heap.size := by omega
  have hlt1 : w.heap.size + 1 < w3.heap.size := by omega
  clear hYl hF0 ho3 hb3 hbS hz1
  go_wp2_with fail
  obtain ⟨g, hg⟩ : ∃ g, w3.heap.size = g := ⟨_, rfl⟩
  have hgge : w.heap.size + 2 ≤ g := by omega
  rw [hg] at HF0 ⊢
  go_loopw [47] (fun i wr => ∃ k : Nat, k ≤ n ∧ i = .int .i64 k ∧ Hid (FillI (w.heap.size + 2) W g (.int .i64 q) gv n c3 rows wr (partK (genS (rsV r q) m xss) m k 0))) (fun i _ => n - (intOf i).toNat)
  case atStart => exact ⟨0, Nat.zero_le _, rfl, HF0.out⟩
  case round =>
    obtain ⟨k, hk, rfl, hF⟩ := hrel
    by_cases hlt : k < n
    · have hkx : Hid (k < xss.length) := by show _ < _; have := hlx.out; omega
      have hbr : Below B w wr := (hbW.mono hB).trans (hF.out.below.mono (by omega))
      obtain ⟨A', n', c', hadB, hcell0, hn', hc', hi⟩ := hh.out.row hlt
      obtain rfl : n' = len0 xss := hi.1.symm.trans (hok.out.row hkx.out).1
      have hcell := (hbr.cell (p := ad.add k) (by rw [block_of_add]; omega)).trans hcell0
      have hi' := Lib.hid hi
      clear hi hbr hcell0
      unfold maxLen at hc'
      go_wp2_with fail
      clear hcell
      have hk0 : (0 : Int) ≤ (k : Int) := by omega
      have hkn : (k : Int) < (n : Int) := by omega
      obtain ⟨wo, hwo⟩ : ∃ wo : World, wo = wr := ⟨_, rfl⟩
      rw [← hwo] at hF ⊢
      clear hwo
      go_loopw [53] (fun i wi => ∃ j : Nat, j ≤ m ∧ i = .int .i64 j ∧ Hid (FillI (w.heap.size + 2) W g (.int .i64 q) gv n c3 rows wi (partK (genS (rsV r q) m xss) m k j))) (fun i _ => m - (intOf i).toNat)
      case atStart => exact ⟨0, Nat.zero_le _, rfl, hF.out⟩
      case round =>
        obtain ⟨j, hj, rfl, hi⟩ := hrel
        by_cases hjl : j < m
        · obtain ⟨a1, a2, a3, a4, a5, a6⟩ := rs_at (k := j) hr1 hr2 hq1 (by rw [HL0.out]; omega) (by rw [HL0.out]; omega)
          obtain ⟨i, hi0⟩ := Int.eq_ofNat_of_zero_le a3
          obtain ⟨f, hf⟩ : ∃ f, (j : Int) * r % q = f := ⟨_, rfl⟩
          have hbi : Below B w wr := (hbW.mono hB).trans (hi.out.below.mono (by omega))
          have hil : i < len0 xss := by omega
          obtain ⟨ad', rfl⟩ := hi'.out.addr (by omega)
          have hz := pcell hi.out.below
          have hq0 : ¬ q = 0 := by omega
          go_wp2_with fail
          go_quiet (fail)
          rw [hi0, hf]
          rw [hi0] at a3 a4
          rw [hf] at a5 a6
          have Hi0 := Lib.hid hi0
          have Hf0 := Lib.hid hf
          clear hi0 hf
          obtain ⟨wd, hwd⟩ : ∃ wd, wd = wr.drewN nq := ⟨_, rfl⟩
          have hi2 : Hid (FillI (w.heap.size + 2) W g (.int .i64 q) gv n c3 rows wd (partK (genS (rsV r q) m xss) m k j)) := by rw [hwd]; exact hi.out.drewN nq
          have hzd := pcell hi2.out.below
          have hid := Lib.hid (hi'.out.below ((hbW.mono hB).trans (hi2.out.below.mono (show B ≤ w.heap.size + 2 by omega))) (Nat.le_refl _))
          rw [← hwd]
          clear hwd hi hz hbi
          have hYk : (rowOf (partK (genS (rsV r q) m xss) m k j) k).length = m := partK_len (by rw [HY.out]; omega) (genS_len hkx.out) hj
          obtain ⟨b, cap, hrk, hcap1, hcap2, -, hn3, hc3⟩ := hi2.out.slot (by rw [partK_length, HY.out]; exact hlt) hYk (by omega)
          have hS := hi2.out.cells hrk
          have HR := Lib.hid hrk
          have hj0 : (0 : Int) ≤ (j : Int) := by omega
          have hjn : (j : Int) < (m : Int) := by omega
          have hi00 : (0 : Int) ≤ (i : Int) := by omega
          clear hrk hYk
          have HV : Hid (elOf (rowOf (genS (rsV r q) m xss) k) j = rsV r q (rowOf xss k) j) := genS_el hkx.out hjl
          have hci := (hid.out.at_ hil).2
          obtain ⟨⟨vo, hvo⟩, hfz⟩ := hi2.out.elem HR.out hjl
          by_cases hlast : i + 1 < len0 xss
          · have hE : (i : Int) < (len0 xss : Int) - 1 := by omega
            have HVx : elOf (rowOf (genS (rsV r q) m xss) k) j = nearI (elOf (rowOf xss k) i * q + f * (elOf (rowOf xss k) (i + 1) - elOf (rowOf xss k) i)) q := by
              rw [HV.out]
              unfold rsV
              simp only [Hi0.out, Hf0.out, Int.toNat_natCast]
              rw [if_pos (by rw [(hok.out.row hkx.out).1]; exact hlast)]
            have HI3 := Lib.hid (hi2.out.put HR.out (by rw [HY.out]; exact hlt) (genS_len hkx.out) hjl HVx)
            have hci1 := (hid.out.at_ hlast).2
            obtain ⟨x1, x2⟩ := hok.out.el hkx.out hil
            obtain ⟨y1, y2⟩ := hok.out.el hkx.out hlast
            obtain ⟨x, hx⟩ : ∃ x, elOf (rowOf xss k) i = x := ⟨_, rfl⟩
            obtain ⟨y, hy⟩ : ∃ y, elOf (rowOf xss k) (i + 1) = y := ⟨_, rfl⟩
            rw [hx, hy] at HI3
            rw [hx] at hci x1 x2
            rw [hy] at hci1 y1 y2
            clear HVx hx hy
            obtain ⟨s1, s2, s3, s4⟩ := rs_sum x1 x2 y1 y2 a5 a6 hq1 hq2
            have HW1 := Lib.hid (IntWalk.i64_in (x * q) (by omega))
            obtain ⟨i1, hi1⟩ : ∃ i1, i1 = i + 1 := ⟨_, rfl⟩
            have HW2 : Hid (IntKind.i64.wrap ((i : Int) + 1) = (i1 : Int)) := by show _ = _; rw [IntWalk.i64_in _ (by omega)]; omega
            rw [← hi1] at hci1
            have HW3 := Lib.hid (IntWalk.i64_in (y - x) (by omega))
            have HW4 := Lib.hid (IntWalk.i64_in (f * (y - x)) (by omega))
            have HW5 := Lib.hid (IntWalk.i64_in (x * q + f * (y - x)) (by omega))
            have HNE := Lib.hid (fun w => NEAR_any (x * q + f * (y - x)) q (by omega) (by omega) (by omega) (by omega) w)
            go_wp2_with fail
            clear hE s1 s2 s3 s4 x1 x2 y1 y2
            have hi10 : (0 : Int) ≤ (i1 : Int) := by omega
            have hi11 : (i1 : Int) < (len0 xss : Int) := by omega
            clear hi1
            have hS' := hS
            clear hS
            have hS : (wd.drew.cell? ⟨g, 1, none⟩ = some (.slice (some ⟨gv, 0, none⟩) n c3) ∧ wd.drew.cell? ⟨gv, k, none⟩ = some (.slice (some ⟨b, 0, none⟩) m cap)) ∧ wd.drew.cell? (ad'.add i) = some (.int .i64 x) ∧ wd.drew.cell? (ad'.add i1) = some (.int .i64 y) := ⟨hS', hci, hci1⟩
            refine wp_region_head 27 (fun w' => (w'.cell? ⟨g, 1, none⟩ = some (.slice (some ⟨gv, 0, none⟩) n c3) ∧ w'.cell? ⟨gv, k, none⟩ = some (.slice (some ⟨b, 0, none⟩) m cap)) ∧ w'.cell? (ad'.add i) = some (.int .i64 x) ∧ w'.cell? (ad'.add i1) = some (.int .i64 y)) (by kernel_rfl) (by kernel_rfl) ?_
            refine HL.take (i := 0) (oi := _) (v := ?_) rfl (by kernel_rfl) (by kernel_rfl) (by decide) (fun _ _ _ h => h) (Or.inl ⟨by rfl, ?_⟩) hS ?_
            rotate_left
            · intro wz hwz
              try dsimp only at hwz
              go_simp
              try with_reducible rfl
            simp only [Act.put, List.setIfInBounds_toArray, List.set_cons_zero, List.set_cons_succ]
            refine HL.take (i := 1) (oi := _) (v := ?_) rfl (by kernel_rfl) (by kernel_rfl) (by decide) (fun _ _ _ h => h) (Or.inl ⟨by rfl, ?_⟩) hS ?_
            rotate_left
            · intro wz hwz
              try dsimp only at hwz
              go_simp
              try with_reducible rfl
            simp only [Act.put, List.setIfInBounds_toArray, List.set_cons_zero, List.set_cons_succ]
            refine HL.take (i := 2) (oi := _) (v := ?_) rfl (by kernel_rfl) (by kernel_rfl) (by decide) (fun _ _ _ h => h) (Or.inl ⟨by rfl, ?_⟩) hS ?_
            rotate_left
            · intro wz hwz
              try dsimp only at hwz
              go_simp
              try with_reducible rfl
            simp only [Act.put, List.setIfInBounds_toArray, List.set_cons_zero, List.set_cons_succ]
            refine HL.take (i := 3) (oi := _) (v := ?_) rfl (by kernel_rfl) (by kernel_rfl) (by decide) (fun _ _ _ h => h) (Or.inl ⟨by rfl, ?_⟩) hS ?_
            rotate_left
            · intro wz hwz
              try dsimp only at hwz
              go_simp
              try with_reducible rfl
            simp only [Act.put, List.setIfInBounds_toArray, List.set_cons_zero, List.set_cons_succ]
            refine HL.take (i := 4) (oi := _) (v := ?_) rfl (by kernel_rfl) (by kernel_rfl) (by decide) (fun _ _ _ h => h) (Or.inl ⟨by rfl, ?_⟩) hS ?_
            rotate_left
            · intro wz hwz
              try dsimp only at hwz
              go_simp
              try with_reducible rfl
            simp only [Act.put, List.setIfInBounds_toArray, List.set_cons_zero, List.set_cons_succ]
            refine HL.take (i := 5) (oi := _) (v := ?_) rfl (by kernel_rfl) (by kernel_rfl) (by decide) (fun _ _ _ h => h) (Or.inl ⟨by rfl, ?_⟩) hS ?_
            rotate_left
            · intro wz hwz
              try dsimp only at hwz
              go_simp
              try with_reducible rfl
            simp only [Act.put, List.setIfInBounds_toArray, List.set_cons_zero, List.set_cons_succ]
            refine HL.take (i := 6) (oi := _) (v := ?_) rfl (by kernel_rfl) (by kernel_rfl) (by decide) (fun _ _ _ h => h) (Or.inl ⟨by rfl, ?_⟩) hS ?_
            rotate_left
            · intro wz hwz
              try dsimp only at hwz
              go_simp
              try with_reducible rfl
            simp only [Act.put, List.setIfInBounds_toArray, List.set_cons_zero, List.set_cons_succ]
            refine HL.take (i := 7) (oi := _) (v := ?_) rfl (by kernel_rfl) (by kernel_rfl) (by decide) (fun _ _ _ h => h) (Or.inl ⟨by rfl, ?_⟩) hS ?_
            rotate_left
            · intro wz hwz
              try dsimp only at hwz
              go_simp
              try with_reducible rfl
            simp only [Act.put, List.setIfInBounds_toArray, List.set_cons_zero, List.set_cons_succ]
            refine HL.take (i := 8) (oi := _) (v := ?_) rfl (by kernel_rfl) (by kernel_rfl) (by decide) (fun _ _ _ h => h) (Or.inl ⟨by rfl, ?_⟩) hS ?_
            rotate_left
            · intro wz hwz
              try dsimp only at hwz
              go_simp
              try with_reducible rfl
            simp only [Act.put, List.setIfInBounds_toArray, List.set_cons_zero, List.set_cons_succ]
            refine HL.take (i := 9) (oi := _) (v := ?_) rfl (by kernel_rfl) (by kernel_rfl) (by decide) (fun _ _ _ h => h) (Or.inl ⟨by rfl, ?_⟩) hS ?_
            rotate_left
            · intro wz hwz
              try dsimp only at hwz
              go_simp
              try with_reducible rfl
            simp only [Act.put, List.setIfInBounds_toArray, List.set_cons_zero, List.set_cons_succ]
            refine HL.take (i := 10) (oi := _) (v := ?_) rfl (by kernel_rfl) (by kernel_rfl) (by decide) (fun _ _ _ h => h) (Or.inl ⟨by rfl, ?_⟩) hS ?_
            rotate_left
            · intro wz hwz
              try dsimp only at hwz
              go_simp
              try with_reducible rfl
            simp only [Act.put, List.setIfInBounds_toArray, List.set_cons_zero, List.set_cons_succ]
            refine HL.take (i := 11) (oi := _) (v := .int .i64 (x * q)) rfl (by kernel_rfl) (by kernel_rfl) (by decide) (fun _ _ _ h => h) (Or.inl ⟨by rfl, ?_⟩) hS ?_
            · intro wz hwz
              try dsimp only at hwz
              go_simp
              first | done | exact HW1.out | simp only [HW1.out]
            simp only [Act.put, List.setIfInBounds_toArray, List.set_cons_zero, List.set_cons_succ]
            refine HL.take (i := 12) (oi := _) (v := ?_) rfl (by kernel_rfl) (by kernel_rfl) (by decide) (fun _ _ _ h => h) (Or.inl ⟨by rfl, ?_⟩) hS ?_
            rotate_left
            · intro wz hwz
              try dsimp only at hwz
              go_simp
              try with_reducible rfl
            simp only [Act.put, List.setIfInBounds_toArray, List.set_cons_zero, List.set_cons_succ]
            refine HL.take (i := 13) (oi := _) (v := ?_) rfl (by kernel_rfl) (by kernel_rfl) (by decide) (fun _ _ _ h => h) (Or.inl ⟨by rfl, ?_⟩) hS ?_
            rotate_left
            · intro wz hwz
              try dsimp only at hwz
              go_simp
              try with_reducible rfl
            simp only [Act.put, List.setIfInBounds_toArray, List.set_cons_zero, List.set_cons_succ]
            refine HL.take (i := 14) (oi := _) (v := ?_) rfl (by kernel_rfl) (by kernel_rfl) (by decide) (fun _ _ _ h => h) (Or.inl ⟨by rfl, ?_⟩) hS ?_
            rotate_left
            · intro wz hwz
              try dsimp only at hwz
              go_simp
              try with_reducible rfl
            simp only [Act.put, List.setIfInBounds_toArray, List.set_cons_zero, List.set_cons_succ]
            refine HL.take (i := 15) (oi := _) (v := .int .i64 (i1 : Int)) rfl (by kernel_rfl) (by kernel_rfl) (by decide) (fun _ _ _ h => h) (Or.inl ⟨by rfl, ?_⟩) hS ?_
            · intro wz hwz
              try dsimp only at hwz
              go_simp
              first | done | exact HW2.out | simp only [HW2.out]
            simp only [Act.put, List.setIfInBounds_toArray, List.set_cons_zero, List.set_cons_succ]
            refine HL.take (i := 16) (oi := _) (v := ?_) rfl (by kernel_rfl) (by kernel_rfl) (by decide) (fun _ _ _ h => h) (Or.inl ⟨by rfl, ?_⟩) hS ?_
            rotate_left
            · intro wz hwz
              try dsimp only at hwz
              go_simp
              try with_reducible rfl
            simp only [Act.put, List.setIfInBounds_toArray, List.set_cons_zero, List.set_cons_succ]
            refine HL.take (i := 17) (oi := _) (v := ?_) rfl (by kernel_rfl) (by kernel_rfl) (by decide) (fun _ _ _ h => h) (Or.inl ⟨by rfl, ?_⟩) hS ?_
            rotate_left
            · intro wz hwz
              try dsimp only at hwz
              go_simp
              try with_reducible rfl
            simp only [Act.put, List.setIfInBounds_toArray, List.set_cons_zero, List.set_cons_succ]
            refine HL.take (i := 18) (oi := _) (v := ?_) rfl (by kernel_rfl) (by kernel_rfl) (by decide) (fun _ _ _ h => h) (Or.inl ⟨by rfl, ?_⟩) hS ?_
            rotate_left
            · intro wz hwz
              try dsimp only at hwz
              go_simp
              try with_reducible rfl
            simp only [Act.put, List.setIfInBounds_toArray, List.set_cons_zero, List.set_cons_succ]
            refine HL.take (i := 19) (oi := _) (v := ?_) rfl (by kernel_rfl) (by kernel_rfl) (by decide) (fun _ _ _ h => h) (Or.inl ⟨by rfl, ?_⟩) hS ?_
            rotate_left
            · intro wz hwz
              try dsimp only at hwz
              go_simp
              try with_reducible rfl
            simp only [Act.put, List.setIfInBounds_toArray, List.set_cons_zero, List.set_cons_succ]
            refine HL.take (i := 20) (oi := _) (v := ?_) rfl (by kernel_rfl) (by kernel_rfl) (by decide) (fun _ _ _ h => h) (Or.inl ⟨by rfl, ?_⟩) hS ?_
            rotate_left
            · intro wz hwz
              try dsimp only at hwz
              go_simp
              try with_reducible rfl
            simp only [Act.put, List.setIfInBounds_toArray, List.set_cons_zero, List.set_cons_succ]
            refine HL.take (i := 21) (oi := _) (v := ?_) rfl (by kernel_rfl) (by kernel_rfl) (by decide) (fun _ _ _ h => h) (Or.inl ⟨by rfl, ?_⟩) hS ?_
            rotate_left
            · intro wz hwz
              try dsimp only at hwz
              go_simp
              try with_reducible rfl
            simp only [Act.put, List.setIfInBounds_toArray, List.set_cons_zero, List.set_cons_succ]
            refine HL.take (i := 22) (oi := _) (v := .int .i64 (y - x)) rfl (by kernel_rfl) (by kernel_rfl) (by decide) (fun _ _ _ h => h) (Or.inl ⟨by rfl, ?_⟩) hS ?_
            · intro wz hwz
              try dsimp only at hwz
              go_simp
              first | done | exact HW3.out | simp only [HW3.out]
            simp only [Act.put, List.setIfInBounds_toArray, List.set_cons_zero, List.set_cons_succ]
            refine HL.take (i := 23) (oi := _) (v := .int .i64 (f * (y - x))) rfl (by kernel_rfl) (by kernel_rfl) (by decide) (fun _ _ _ h => h) (Or.inl ⟨by rfl, ?_⟩) hS ?_
            · intro wz hwz
              try dsimp only at hwz
              go_simp
              first | done | exact HW4.out | simp only [HW4.out]
            simp only [Act.put, List.setIfInBounds_toArray, List.set_cons_zero, List.set_cons_succ]
            refine HL.take (i := 24) (oi := _) (v := .int .i64 (x * q + f * (y - x))) rfl (by kernel_rfl) (by kernel_rfl) (by decide) (fun _ _ _ h => h) (Or.inl ⟨by rfl, ?_⟩) hS ?_
            · intro wz hwz
              try dsimp only at hwz
              go_simp
              first | done | exact HW5.out | simp only [HW5.out]
            simp only [Act.put, List.setIfInBounds_toArray, List.set_cons_zero, List.set_cons_succ]
            refine HL.take (i := 25) (oi := _) (v := ?_) rfl (by kernel_rfl) (by kernel_rfl) (by decide) (fun _ _ _ h => h) (Or.inl ⟨by rfl, ?_⟩) hS ?_
            rotate_left
            · intro wz hwz
              try dsimp only at hwz
              go_simp
              try with_reducible rfl
            simp only [Act.put, List.setIfInBounds_toArray, List.set_cons_zero, List.set_cons_succ]
            refine HL.one (i := 26) (o := _) rfl (by kernel_rfl) (by decide) (by rfl) ?_
            intro K hK
            go_simp
            refine (HNE.out _).mono ?_
            rintro e w' ⟨rfl, rfl⟩
            refine hK.out _ _ hS ?_
            try simp only [Act.put, List.setIfInBounds_toArray, List.set_cons_zero, List.set_cons_succ]
            clear hK K
            refine HL.done (by kernel_rfl) ?_
            simp only [List.drop_succ_cons, List.drop_zero]
            go_wp2
            go_roundw
            case rel => exact ⟨j + 1, by omega, by go_num, HI3.out.drew⟩
            case measure => simp [intOf]; omega
          · have hE : (i : Int) = (len0 xss : Int) - 1 := by omega
            have HEw : Hid (IntKind.i64.wrap ((len0 xss : Int) - 1) = (i : Int)) := by show _ = _; rw [IntWalk.i64_in _ (by omega)]; omega
            have HVx : elOf (rowOf (genS (rsV r q) m xss) k) j = elOf (rowOf xss k) i := by
              rw [HV.out]
              unfold rsV
              simp only [Hi0.out, Int.toNat_natCast]
              rw [if_neg (by rw [(hok.out.row hkx.out).1]; exact hlast)]
            have HI3 := Lib.hid (hi2.out.put HR.out (by rw [HY.out]; exact hlt) (genS_len hkx.out) hjl HVx)
            obtain ⟨x, hx⟩ : ∃ x, elOf (rowOf xss k) i = x := ⟨_, rfl⟩
            rw [hx] at HI3 hci
            clear HVx hx
            go_wp2_with fail
            have hS' := hS
            clear hS
            have hS : (wd.drew.cell? ⟨g, 1, none⟩ = some (.slice (some ⟨gv, 0, none⟩) n c3) ∧ wd.drew.cell? ⟨gv, k, none⟩ = some (.slice (some ⟨b, 0, none⟩) m cap)) ∧ wd.drew.cell? (ad'.add i) = some (.int .i64 x) := ⟨hS', hci⟩
            clear hE
            refine wp_region_head 12 (fun w' => (w'.cell? ⟨g, 1, none⟩ = some (.slice (some ⟨gv, 0, none⟩) n c3) ∧ w'.cell? ⟨gv, k, none⟩ = some (.slice (some ⟨b, 0, none⟩) m cap)) ∧ w'.cell? (ad'.add i) = some (.int .i64 x)) (by kernel_rfl) (by kernel_rfl) ?_
            refine HL.take (i := 0) (oi := _) (v := ?_) rfl (by kernel_rfl) (by kernel_rfl) (by decide) (fun _ _ _ h => h) (Or.inl ⟨by rfl, ?_⟩) hS ?_
            rotate_left
            · intro wz hwz
              try dsimp only at hwz
              go_simp
              try with_reducible rfl
            simp only [Act.put, List.setIfInBounds_toArray, List.set_cons_zero, List.set_cons_succ]
            refine HL.take (i := 1) (oi := _) (v := ?_) rfl (by kernel_rfl) (by kernel_rfl) (by decide) (fun _ _ _ h => h) (Or.inl ⟨by rfl, ?_⟩) hS ?_
            rotate_left
            · intro wz hwz
              try dsimp only at hwz
              go_simp
              try with_reducible rfl
            simp only [Act.put, List.setIfInBounds_toArray, List.set_cons_zero, List.set_cons_succ]
            refine HL.take (i := 2) (oi := _) (v := ?_) rfl (by kernel_rfl) (by kernel_rfl) (by decide) (fun _ _ _ h => h) (Or.inl ⟨by rfl, ?_⟩) hS ?_
            rotate_left
            · intro wz hwz
              try dsimp only at hwz
              go_simp
              try with_reducible rfl
            simp only [Act.put, List.setIfInBounds_toArray, List.set_cons_zero, List.set_cons_succ]
            refine HL.take (i := 3) (oi := _) (v := ?_) rfl (by kernel_rfl) (by kernel_rfl) (by decide) (fun _ _ _ h => h) (Or.inl ⟨by rfl, ?_⟩) hS ?_
            rotate_left
            · intro wz hwz
              try dsimp only at hwz
              go_simp
              try with_reducible rfl
            simp only [Act.put, List.setIfInBounds_toArray, List.set_cons_zero, List.set_cons_succ]
            refine HL.take (i := 4) (oi := _) (v := ?_) rfl (by kernel_rfl) (by kernel_rfl) (by decide) (fun _ _ _ h => h) (Or.inl ⟨by rfl, ?_⟩) hS ?_
            rotate_left
            · intro wz hwz
              try dsimp only at hwz
              go_simp
              try with_reducible rfl
            simp only [Act.put, List.setIfInBounds_toArray, List.set_cons_zero, List.set_cons_succ]
            refine HL.take (i := 5) (oi := _) (v := ?_) rfl (by kernel_rfl) (by kernel_rfl) (by decide) (fun _ _ _ h => h) (Or.inl ⟨by rfl, ?_⟩) hS ?_
            rotate_left
            · intro wz hwz
              try dsimp only at hwz
              go_simp
              try with_reducible rfl
            simp only [Act.put, List.setIfInBounds_toArray, List.set_cons_zero, List.set_cons_succ]
            refine HL.take (i := 6) (oi := _) (v := ?_) rfl (by kernel_rfl) (by kernel_rfl) (by decide) (fun _ _ _ h => h) (Or.inl ⟨by rfl, ?_⟩) hS ?_
            rotate_left
            · intro wz hwz
              try dsimp only at hwz
              go_simp
              try with_reducible rfl
            simp only [Act.put, List.setIfInBounds_toArray, List.set_cons_zero, List.set_cons_succ]
            refine HL.take (i := 7) (oi := _) (v := ?_) rfl (by kernel_rfl) (by kernel_rfl) (by decide) (fun _ _ _ h => h) (Or.inl ⟨by rfl, ?_⟩) hS ?_
            rotate_left
            · intro wz hwz
              try dsimp only at hwz
              go_simp
              try with_reducible rfl
            simp only [Act.put, List.setIfInBounds_toArray, List.set_cons_zero, List.set_cons_succ]
            refine HL.take (i := 8) (oi := _) (v := ?_) rfl (by kernel_rfl) (by kernel_rfl) (by decide) (fun _ _ _ h => h) (Or.inl ⟨by rfl, ?_⟩) hS ?_
            rotate_left
            · intro wz hwz
              try dsimp only at hwz
              go_simp
              try with_reducible rfl
            simp only [Act.put, List.setIfInBounds_toArray, List.set_cons_zero, List.set_cons_succ]
            refine HL.take (i := 9) (oi := _) (v := .int .i64 (i : Int)) rfl (by kernel_rfl) (by kernel_rfl) (by decide) (fun _ _ _ h => h) (Or.inl ⟨by rfl, ?_⟩) hS ?_
            · intro wz hwz
              try dsimp only at hwz
              go_simp
              first | done | exact HEw.out | simp only [HEw.out]
            simp only [Act.put, List.setIfInBounds_toArray, List.set_cons_zero, List.set_cons_succ]
            refine HL.take (i := 10) (oi := _) (v := ?_) rfl (by kernel_rfl) (by kernel_rfl) (by decide) (fun _ _ _ h => h) (Or.inl ⟨by rfl, ?_⟩) hS ?_
            rotate_left
            · intro wz hwz
              try dsimp only at hwz
              go_simp
              try with_reducible rfl
            simp only [Act.put, List.setIfInBounds_toArray, List.set_cons_zero, List.set_cons_succ]
            refine HL.take (i := 11) (oi := _) (v := ?_) rfl (by kernel_rfl) (by kernel_rfl) (by decide) (fun _ _ _ h => h) (Or.inl ⟨by rfl, ?_⟩) hS ?_
            rotate_left
            · intro wz hwz
              try dsimp only at hwz
              go_simp
              try with_reducible rfl
            simp only [Act.put, List.setIfInBounds_toArray, List.set_cons_zero, List.set_cons_succ]
            refine HL.done (by kernel_rfl) ?_
            simp only [List.drop_succ_cons, List.drop_zero]
            go_wp2
            go_roundw
            case rel => exact ⟨j + 1, by omega, by go_num, HI3.out.drew⟩
            case measure => simp [intOf]; omega
        · obtain rfl : j = m := by omega
          go_wp2
          go_roundw
          case rel =>
            refine ⟨k + 1, by omega, by go_num, ?_⟩
            have := hi.out
            rw [partK_next (fun a ha => genS_len (by rw [genS_length] at ha; exact ha))] at this
            exact this
          case measure => simp [intOf]; omega
    · obtain rfl : k = n := by omega
      have hcg0 := own_cell1 hF.out.box 0
      have hcg1 := own_cell1 hF.out.box 1
      simp at hcg0 hcg1
      have hz := pcell hF.out.below
      have hcr0 : wr.cell? ⟨w.heap.size + 1, 0, none⟩ = some (.int .i64 0) := by rw [hz _ (by simp), hcW _ _ (by simp)]; simp [go_sem]
      have hcr1 : wr.cell? ⟨w.heap.size + 1, 1, none⟩ = some (.slice none 0 0) := by rw [hz _ (by simp), hcW _ _ (by simp)]; simp [go_sem]
      have hfr := fun b o h => ((bcell hF.out.below).2 b o h)
      clear hz
      go_wp2
      refine end_snd2 rfl rfl rfl hcr0 hcr1 ?_
      have hI9 := hF.out.own
      rw [partK_end HY.out] at hI9
      exact ⟨_, rfl, ⟨rows, ((hI9.set_below (p := ⟨w.heap.size + 1, 0, none⟩) (by simp) _).set_below (p := ⟨w.heap.size + 1, 1, none⟩) (by simp) _).base (show w.heap.size ≤ w.heap.size + 2 by omega)⟩, set2_below (hbW.trans (hF.out.below.mono (by omega))) (by omega)⟩
end Go.Proofs.Ytpnbkkpbgpcgiaa
