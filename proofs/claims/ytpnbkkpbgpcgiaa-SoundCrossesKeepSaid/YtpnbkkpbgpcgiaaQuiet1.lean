/- The law FadesAreQuieter, walked. -/
import Derived.Test.YtpnbkkpbgpcgiaaFade3
import Derived.Test.YtpnbkkpbgpcgiaaRev3
import Derived.Test.YtpnbkkpbgpcgiaaLong
import Derived.Test.YtpnbkkpbgpcgiaaSame
import Derived.Test.YtpnbkkpbgpcgiaaPeak
set_option linter.unusedSimpArgs false
set_option linter.unusedVariables false
namespace Go.Proofs.Ytpnbkkpbgpcgiaa
open Go.RowKit Go.Dw
attribute [local go_sem ↓] Go.wp_at_zero Go.wp_at_succ

theorem own_rows_set2 {w : World} {B : Nat} {A : Option Addr} {n c : Nat} {Z : List (List Int)} (h : OwnRows w B (.slice A n c) Z) {g : Nat} (hg : g < B) (u0 u1 : Value) :
    RowsAt ((w.setCell ⟨g, 0, none⟩ u0).setCell ⟨g, 1, none⟩ u1) ((w.setCell ⟨g, 0, none⟩ u0).setCell ⟨g, 1, none⟩ u1).heap.size A n Z :=
  h.elim fun rows hL => OwnRows.rows ⟨rows, (hL.set_below (p := ⟨g, 0, none⟩) hg u0).set_below (p := ⟨g, 1, none⟩) hg u1⟩
set_option maxHeartbeats 800000 in
theorem quiet_err (r : Int) (A : Option Addr) (n c : Nat) (p q sh : Int) (up : Bool) (F : Int) (xss : List (List Int)) (w : World) (hh : Hid (RowsAt w w.heap.size A n xss)) (hE : Hid (fdS r xss p q sh up = (0, [], F))) (hF : F ≠ 0) :
    Calls Try.prog 12 #[.agg #[.int .i64 r, .slice A n c], .agg #[.int .i64 p, .int .i64 q], .int .i64 sh, .bool up] w fun e w' => e = .returned (.bool true) ∧ Below w.heap.size w w' := by
  have d3 : (F != 0) = true := by simpa using hF
  go_enter Try.func12, Try.ntmps12
  go_wp2_with fail
  refine calls_later (w.heap.size + 2) ?_
  intro W hW hsW
  obtain ⟨hcW, hfW⟩ := bcell hW
  simp only [World.size_alloc] at hsW
  have hbW : Below w.heap.size w W := (((Below.refl _ w).alloc (Nat.le_refl _) _).alloc (by simp) _).trans (hW.mono (by omega))
  refine (FADE_any r A n c p q sh up xss _ w.heap.size (by omega) (hh.out.below hbW (Nat.le_refl _))).mono ?_
  rw [hE.out]
  rintro e w1 ⟨v1, rfl, ho1, hb1⟩
  obtain ⟨A1, c1, rfl, _, _⟩ := ho1.form
  have hs1 := hb1.size
  have hbw1 := hbW.trans (hb1.mono (show w.heap.size ≤ W.heap.size by omega))
  have hl0 : ([] : List (List Int)).length = 0 := rfl
  go_wp2_with fail
  refine (AWAKE_any _).mono ?_
  rintro e w4 ⟨rfl, hb4⟩
  have hz4 := pcell hb4
  go_wp2_with fail
  go_ret
  exact ⟨rfl, (hbw1.trans ((Below.refl _ _).alloc (by omega) _)).trans (hb4.mono (by simp; omega))⟩

set_option maxRecDepth 100000 in
set_option maxHeartbeats 4000000 in
theorem quiet_ok (r : Int) (ad : Addr) (n c : Nat) (p q sh : Int) (up : Bool) (xss : List (List Int)) (w : World) (hh : Hid (RowsAt w w.heap.size (some ad) n xss)) (hok : Hid (OkS r xss)) (hp : 0 ≤ p) (hpq : p ≤ q) (hqm : q ≤ len0 xss)
    (hE : Hid (fdS r xss p q sh up = (r, genS (fadeV sh up p q) (len0 xss) xss, 0))) (hR : Hid (rvS r xss = (r, xss.map List.reverse, 0))) (hE2 : Hid (∀ p' q', p' = (len0 xss : Int) - q → q' = (len0 xss : Int) - p → fdS r (xss.map List.reverse) p' q' sh (!up) = (r, genS (fadeV sh (!up) ((len0 xss : Int) - q) ((len0 xss : Int) - p)) (len0 xss) (xss.map List.reverse), 0)))
    (hR2 : Hid (rvS r (genS (fadeV sh (!up) ((len0 xss : Int) - q) ((len0 xss : Int) - p)) (len0 xss) (xss.map List.reverse)) = (r, genS (fadeV sh up p q) (len0 xss) xss, 0))) :
    Calls Try.prog 12 #[.agg #[.int .i64 r, .slice (some ad) n c], .agg #[.int .i64 p, .int .i64 q], .int .i64 sh, .bool up] w fun e w' => e = .returned (.bool true) ∧ Below w.heap.size w w' := by
  have hl := Lib.hid hh.out.1
  have hn16 : n ≤ 16 := by have := hok.out.few; have := hl.out; omega
  have hn0 : 0 < n := by have := hok.out.some; have := hl.out; omega
  have hm := hok.out.long
  obtain ⟨Y, hY⟩ : ∃ Y, genS (fadeV sh up p q) (len0 xss) xss = Y := ⟨_, rfl⟩
  have HY := Lib.hid hY
  rw [hY] at hE
  have HYl : Hid (Y.length = n) := by show _ = _; rw [← hY, genS_length]; exact hl.out
  have HYm : Hid (∀ a, a < n → (rowOf Y a).length = len0 xss) := fun a ha => by rw [← hY]; exact genS_len (by rw [hl.out]; exact ha)
  have HYe : Hid (∀ a i, a < n → i < len0 xss → elOf (rowOf Y a) i = fadeV sh up p q (rowOf xss a) i) := fun a i ha hi => by rw [← hY]; exact genS_el (by rw [hl.out]; exact ha) hi
  clear hY
  go_enter Try.func12, Try.ntmps12
  go_wp2_with fail
  refine calls_later (w.heap.size + 2) ?_
  intro W hW hsW
  obtain ⟨hcW, hfW⟩ := bcell hW
  simp only [World.size_alloc] at hsW
  have hbW : Below w.heap.size w W := (((Below.refl _ w).alloc (Nat.le_refl _) _).alloc (by simp) _).trans (hW.mono (by omega))
  refine (FADE_any r (some ad) n c p q sh up xss _ w.heap.size (by omega) (hh.out.below hbW (Nat.le_refl _))).mono ?_
  rw [hE.out]
  rintro e w1 ⟨v1, rfl, ho1, hb1⟩
  obtain ⟨A1, c1, rfl, _, _⟩ := ho1.form
  have hs1 := hb1.size
  have hbw1 := hbW.trans (hb1.mono (show w.heap.size ≤ W.heap.size by omega))
  have hz1 := pcell (hb1.mono hsW)
  dsimp only at ho1 ⊢
  have HA := ho1.rows
  rw [HYl.out] at HA ⊢
  have HA' := Lib.hid HA
  clear HA ho1
  go_wp2_with fail
  refine (AWAKE_any _).mono ?_
  rintro e W2 ⟨rfl, hb2⟩
  obtain ⟨g, hg⟩ : ∃ g, g = w1.heap.size := ⟨_, rfl⟩
  have hW2 : Below (g + 1) (w1.alloc (.cells #[.int .i64 r, .slice A1 n c1] 24)) W2 := hb2.mono (by simp [hg])
  have hsW2 : g + 1 ≤ W2.heap.size := by have := hb2.size; simp at this; omega
  have hg1 : w.heap.size + 2 ≤ g := by omega
  rw [← hg] at HA' ⊢
  have hbW2 : Below w.heap.size w W2 := (hbw1.trans ((Below.refl _ _).alloc (by omega) _)).trans (hW2.mono (by omega))
  have hcs0 : W2.cell? ⟨w.heap.size, 0, none⟩ = some (.int .i64 r) := by
    rw [(bcell hW2).1 _ _ (by omega), World.cell?_alloc_lt _ _ _ (by dsimp only; omega), hz1 _ (by dsimp only; omega), hcW _ _ (by omega)]; simp [go_sem]
  have hcs1 : W2.cell? ⟨w.heap.size, 1, none⟩ = some (.slice (some ad) n c) := by
    rw [(bcell hW2).1 _ _ (by omega), World.cell?_alloc_lt _ _ _ (by dsimp only; omega), hz1 _ (by dsimp only; omega), hcW _ _ (by omega)]; simp [go_sem]
  have hsp0 : W2.cell? ⟨w.heap.size + 1, 0, none⟩ = some (.int .i64 p) := by
    rw [(bcell hW2).1 _ _ (by omega), World.cell?_alloc_lt _ _ _ (by dsimp only; omega), hz1 _ (by dsimp only; omega), hcW _ _ (by omega)]; simp [go_sem]
  have hsp1 : W2.cell? ⟨w.heap.size + 1, 1, none⟩ = some (.int .i64 q) := by
    rw [(bcell hW2).1 _ _ (by omega), World.cell?_alloc_lt _ _ _ (by dsimp only; omega), hz1 _ (by dsimp only; omega), hcW _ _ (by omega)]; simp [go_sem]
  have hca0 : W2.cell? ⟨g, 0, none⟩ = some (.int .i64 r) := by
    rw [(bcell hW2).1 _ _ (by omega), hg]; simp [go_sem]
  have hca1 : W2.cell? ⟨g, 1, none⟩ = some (.slice A1 n c1) := by
    rw [(bcell hW2).1 _ _ (by omega), hg]; simp [go_sem]
  have HS := Lib.hid (hh.out.below hbW2 (Nat.le_refl _))
  have HYR := Lib.hid ((HA'.out.below (show Below g w1 (w1.alloc (.cells #[.int .i64 r, .slice A1 n c1] 24)) from (Below.refl _ _).alloc (by omega) _) (Nat.le_refl _)).below (hW2.mono (by omega)) (Nat.le_refl _))
  have hgs : w.heap.size < g + 1 := by omega
  have hgs1 : w.heap.size + 1 < g + 1 := by omega
  clear hW2 hb2 hz1 hcW hfW hW HA' hb1 hE hs1 hsW hbW hg
  go_wp2_with fail
  go_loopw [11] (fun i wr => ∃ k : Nat, k ≤ n ∧ i = .int .i64 k ∧ Hid (Below (g + 1) W2 wr)) (fun i _ => n - (intOf i).toNat)
  case atStart => exact ⟨0, Nat.zero_le _, rfl, Below.refl _ _⟩
  case round =>
    obtain ⟨k, hk, rfl, HB⟩ := hrel
    have hz := pcell HB.out
    by_cases hlt : k < n
    · have hkx : Hid (k < xss.length) := by show _ < _; have := hl.out; omega
      obtain ⟨A', n', c', hadB, hcell, hn', hc', hi⟩ := HS.out.row hlt
      obtain rfl : n' = len0 xss := hi.1.symm.trans (hok.out.row hkx.out).1
      obtain ⟨ay, rfl⟩ := HYR.out.addr hn0
      obtain ⟨AY, nY, cY, hayB, hcellY, hnY, hcY, hiY⟩ := HYR.out.row hlt
      obtain rfl : nY = len0 xss := hiY.1.symm.trans (HYm.out k hlt)
      have hi' := Lib.hid hi
      have hiY' := Lib.hid hiY
      have hadk : (ad.add k).block < g + 1 := by rw [block_of_add]; omega
      have hayk : (ay.add k).block < g + 1 := by rw [block_of_add]; omega
      clear hi hiY
      unfold maxLen at hc' hcY
      have hk0 : (0 : Int) ≤ (k : Int) := by omega
      have hkn : (k : Int) < (n : Int) := by omega
      go_wp2_with fail
      go_loopw [12] (fun i wr => ∃ j : Nat, j ≤ len0 xss ∧ i = .int .i64 j ∧ Hid (Below (g + 1) W2 wr)) (fun i _ => len0 xss - (intOf i).toNat)
      case atStart => exact ⟨0, Nat.zero_le _, rfl, HB⟩
      case round =>
        obtain ⟨j, hj, rfl, HB2⟩ := hrel
        have hz := pcell HB2.out
        by_cases hjl : j < len0 xss
        · obtain ⟨ad', rfl⟩ := hi'.out.addr (by omega)
          obtain ⟨ay', rfl⟩ := hiY'.out.addr (by omega)
          have hci := (hi'.out.at_ hjl).2
          have hcy := (hiY'.out.at_ hjl).2
          have hb' := (hi'.out.at_ hjl).1
          have hby := (hiY'.out.at_ hjl).1
          go_wp2_with fail
          (with_reducible refine (LLONG_any r (some ad) n c xss _ w.heap.size ?_ ?_).mono ?_)
          · exact Nat.le_trans (by omega) HB2.out.size
          · exact HS.out.below (HB2.out.mono (by omega)) (Nat.le_refl _)
          rintro e w3 ⟨rfl, hb3⟩
          have HB3 := Lib.hid (Below.next HB2.out hsW2 hb3)
          clear hz hb3 HB2
          have hz := pcell HB3.out
          have hQ := fadeV_quiet (sh := sh) (up := up) (p := p) (q := q) (xs := rowOf xss k) (i := j) (by omega)
          have hO := fun h => fadeV_out (sh := sh) (up := up) (p := p) (q := q) (xs := rowOf xss k) (i := j) h
          rw [HYe.out k j hlt hjl] at hcy
          obtain ⟨x, hx⟩ : ∃ x, elOf (rowOf xss k) j = x := ⟨_, rfl⟩
          obtain ⟨y, hy⟩ : ∃ y, fadeV sh up p q (rowOf xss k) j = y := ⟨_, rfl⟩
          rw [hx] at hci hQ hO
          rw [hy] at hcy hQ hO
          obtain ⟨hQ1, hQ2⟩ := hQ
          have HQ1 := Lib.hid hQ1
          have HQ2 := Lib.hid hQ2
          have HO := Lib.hid hO
          have hj0 : (0 : Int) ≤ (j : Int) := by omega
          have hjn : (j : Int) < (len0 xss : Int) := by omega
          have hzi := (pcell HB3.out (ad'.add j) (by rw [block_of_add]; omega)).trans hci
          have hzj := (pcell HB3.out (ay'.add j) (by rw [block_of_add]; omega)).trans hcy
          clear hx hy hQ1 hQ2 hO hci hcy
          go_wp2_with fail
          go_quiet (fail)
          clear hzi hzj hcell hcellY hca0 hca1 hcs0
          have hsg : 0 ≤ x ∨ x < 0 := by omega
          by_cases hin : (j : Int) < p ∨ q ≤ (j : Int)
          · have e1 := HO.out hin
            subst e1
            have hin' : (j : Int) < p ∨ (¬ (j : Int) < p ∧ q ≤ (j : Int)) := by omega
            clear hin
            rcases hsg with h0 | h0
            · have h1 : ¬ y < 0 := by omega
              rcases hin' with ha | ⟨ha, hb⟩
              · skip
                go_wp2_with fail
                go_roundw
                case rel => exact ⟨j + 1, by omega, by go_num, belowN HB3.out _⟩
                case measure => simp [intOf]; omega
              · skip
                go_wp2_with fail
                go_roundw
                case rel => exact ⟨j + 1, by omega, by go_num, belowN HB3.out _⟩
                case measure => simp [intOf]; omega
            · have h1 : ¬ 0 ≤ y := by omega
              have h2 : ¬ 0 < y := by omega
              rcases hin' with ha | ⟨ha, hb⟩
              · skip
                go_wp2_with fail
                go_roundw
                case rel => exact ⟨j + 1, by omega, by go_num, belowN HB3.out _⟩
                case measure => simp [intOf]; omega
              · skip
                go_wp2_with fail
                go_roundw
                case rel => exact ⟨j + 1, by omega, by go_num, belowN HB3.out _⟩
                case measure => simp [intOf]; omega
          · have ha : ¬ (j : Int) < p := by omega
            have hb : ¬ q ≤ (j : Int) := by omega
            clear hin
            rcases hsg with h0 | h0
            · obtain ⟨h1, h2⟩ := HQ1.out h0
              have h3 : ¬ y < 0 := by omega
              have h4 : ¬ x < y := by omega
              have h5 : ¬ x < 0 := by omega
              go_wp2_with fail
              go_roundw
              case rel => exact ⟨j + 1, by omega, by go_num, belowN HB3.out _⟩
              case measure => simp [intOf]; omega
            · obtain ⟨h1, h2⟩ := HQ2.out h0
              have h3 : ¬ 0 < y := by omega
              have h4 : ¬ y < x := by omega
              have h5 : ¬ 0 ≤ x := by omega
              go_wp2_with fail
              go_roundw
              case rel => exact ⟨j + 1, by omega, by go_num, belowN HB3.out _⟩
              case measure => simp [intOf]; omega
        · obtain rfl : j = len0 xss := by omega
          go_wp2_with fail
          (with_reducible refine (LLONG_any r (some ad) n c xss _ w.heap.size ?_ ?_).mono ?_)
          · exact Nat.le_trans (by omega) HB2.out.size
          · exact HS.out.below (HB2.out.mono (by omega)) (Nat.le_refl _)
          rintro e w3 ⟨rfl, hb3⟩
          have HB3 := Lib.hid (Below.next HB2.out hsW2 hb3)
          clear hz hb3 HB2
          go_wp2_with fail
          go_roundw
          case rel => exact ⟨k + 1, by omega, by go_num, HB3⟩
          case measure => simp [intOf]; omega
    · obtain rfl : k = n := by omega
      have hszr : g + 1 ≤ wr.heap.size := Nat.le_trans hsW2 HB.out.size
      obtain ⟨R, hRd⟩ : ∃ R, xss.map List.reverse = R := ⟨_, rfl⟩
      have HRl : Hid (R.length = k) := by show _ = _; rw [← hRd, List.length_map]; exact hl.out
      obtain ⟨Z, hZd⟩ : ∃ Z, genS (fadeV sh (!up) ((len0 xss : Int) - q) ((len0 xss : Int) - p)) (len0 xss) R = Z := ⟨_, rfl⟩
      have HZl : Hid (Z.length = k) := by show _ = _; rw [← hZd, genS_length]; exact HRl.out
      rw [hRd] at hR hE2 hR2
      rw [hZd] at hE2 hR2
      rw [HY.out] at hR2
      clear hRd hZd
      go_wp2_with fail
      refine (REVERSED_any r (some ad) k c xss _ w.heap.size (by omega) (HS.out.below (HB.out.mono (by omega)) (Nat.le_refl _))).mono ?_
      rw [hR.out]
      rintro e w5 ⟨v5, rfl, ho5, hb5⟩
      obtain ⟨A5, c5, rfl, _, _⟩ := ho5.form
      dsimp only at ho5 ⊢
      have hr5 := ho5.rows
      rw [HRl.out] at hr5 ⊢
      have HR5 := Lib.hid hr5
      have hB5 : Below (g + 1) W2 w5 := Below.next HB.out hsW2 hb5
      have hz5 := pcell hB5
      have hs5 : g + 1 ≤ w5.heap.size := Nat.le_trans hsW2 hB5.size
      obtain ⟨g6, hg6⟩ : ∃ g6, g6 = w5.heap.size := ⟨_, rfl⟩
      clear hr5 ho5 hz hb5
      go_wp2_with fail
      rw [← hg6] at hs5 HR5 ⊢
      refine wp_later (g6 + 1) ?_
      intro W6 hW6 hsW6
      simp only [World.size_alloc, ← hg6] at hsW6
      have hB6 : Below (g + 1) W2 W6 := (hB5.alloc (by omega) _).trans (hW6.mono (by omega))
      have hz6 := pcell hB6
      have gcs0 : W6.cell? ⟨w.heap.size, 0, none⟩ = some (.int .i64 r) := (hz6 _ (by dsimp only; omega)).trans hcs0
      have gcs1 : W6.cell? ⟨w.heap.size, 1, none⟩ = some (.slice (some ad) k c) := (hz6 _ (by dsimp only; omega)).trans hcs1
      have gsp0 : W6.cell? ⟨w.heap.size + 1, 0, none⟩ = some (.int .i64 p) := (hz6 _ (by dsimp only; omega)).trans hsp0
      have gsp1 : W6.cell? ⟨w.heap.size + 1, 1, none⟩ = some (.int .i64 q) := (hz6 _ (by dsimp only; omega)).trans hsp1
      have gca0 : W6.cell? ⟨g, 0, none⟩ = some (.int .i64 r) := (hz6 _ (by dsimp only; omega)).trans hca0
      have gca1 : W6.cell? ⟨g, 1, none⟩ = some (.slice A1 k c1) := (hz6 _ (by dsimp only; omega)).trans hca1
      have gcr0 : W6.cell? ⟨g6, 0, none⟩ = some (.int .i64 r) := by
        rw [(bcell hW6).1 _ _ (by omega), hg6]; simp [go_sem]
      have gcr1 : W6.cell? ⟨g6, 1, none⟩ = some (.slice A5 k c5) := by
        rw [(bcell hW6).1 _ _ (by omega), hg6]; simp [go_sem]
      have KS := Lib.hid (HS.out.below (hB6.mono (show w.heap.size ≤ g + 1 by omega)) (Nat.le_refl _))
      have KY := Lib.hid (HYR.out.below (hB6.mono (show g ≤ g + 1 by omega)) (Nat.le_refl _))
      have KR := Lib.hid ((HR5.out.below (show Below g6 w5 (w5.alloc (.cells #[.int .i64 r, .slice A5 k c5] 24)) from (Below.refl _ _).alloc (by omega) _) (Nat.le_refl _)).below (hW6.mono (by omega)) (Nat.le_refl _))
      have hl6 : w.heap.size < g6 + 1 := by omega
      have hl7 : w.heap.size + 1 < g6 + 1 := by omega
      have hl8 : g < g6 + 1 := by omega
      have hbW6 : Below w.heap.size w W6 := hbW2.trans (hB6.mono (by omega))
      clear hW6 hcs0 hcs1 hsp0 hsp1 hca0 hca1 hz5 hz6 HS HYR HR5 hB5 hB6 HB hg6 hbW2
      have HF2 := Lib.hid (hE2.out (IntKind.i64.wrap ((len0 xss : Int) - q)) (IntKind.i64.wrap ((len0 xss : Int) - p)) (IntWalk.i64_in _ (by omega)) (IntWalk.i64_in _ (by omega)))
      go_cut [10, 16] (fun s10 s16 wx => ∃ (g' : Nat) (A' : Option Addr) (c' : Nat), s10 = .int .i64 0 ∧ s16 = .pointer (some ⟨g', 0, none⟩) ∧ Hid (wx.cell? ⟨g', 0, none⟩ = some (.int .i64 r)) ∧ Hid (wx.cell? ⟨g', 1, none⟩ = some (.slice A' k c')) ∧ Hid (Below (g6 + 1) W6 wx) ∧ Hid (RowsAt wx wx.heap.size A' k Z))
      case first =>
        go_region_held3 (fun w' => Below (g6 + 1) W6 w' ∧ ∀ z : Addr, z.block < g6 + 1 → w'.cell? z = W6.cell? z)
          ((refine (fun h => ⟨h, pcell h⟩) ?_; repeat (first | assumption | exact Below.refl _ _ | (refine Below.drew ?_) | (refine Below.alloc ?_ (by first | omega | (simp; omega) | exact Nat.le_trans hsW6 (Below.size (by assumption)) | (simp only [World.size_drew, World.size_alloc]; exact Nat.le_trans hsW6 (Nat.le_succ_of_le (Below.size (by assumption))))) _) | (refine Below.setCell ?_ (by first | omega | (simp; omega) | exact Nat.le_trans hsW6 (Below.size (by assumption))) _))))
          (first
            | (go_at_call 21; (with_reducible refine (LLONG_any r (some ad) k c xss _ w.heap.size ?_ ?_).mono ?_); (exact Below.ge ‹Below (g6 + 1) W6 _ ∧ _› hsW6 (by omega)); (exact KS.out.below ((‹Below (g6 + 1) W6 _ ∧ _›).1.mono (show w.heap.size ≤ g6 + 1 by omega)) (Nat.le_refl _)); rintro e w7 ⟨rfl, hb7⟩; have hbS := Below.next (‹Below (g6 + 1) W6 _ ∧ _›).1 hsW6 hb7; have hz7 := pcell hb7; have hy7 := fun b o => (bcell hb7).2 b o; have hs7 := hb7.size; (try simp only [World.size_alloc, World.size_drew, Nat.add_one_le_iff] at hs7); (try have hk7 : W6.heap.size < w7.heap.size := by omega))
            | (go_at_call 43; (with_reducible refine (FADE_any r A5 k c5 _ _ sh (!up) R _ g6 ?_ ?_).mono ?_); (exact Below.ge ‹Below (g6 + 1) W6 _ ∧ _› hsW6 (by omega)); (exact KR.out.below ((‹Below (g6 + 1) W6 _ ∧ _›).1.mono (show g6 ≤ g6 + 1 by omega)) (Nat.le_refl _)); rw [HF2.out]; rintro e w8 ⟨v8, rfl, ho8, hb8⟩; obtain ⟨A8, c8, rfl, _, _⟩ := ho8.form; have hbS8 := Below.next (‹Below (g6 + 1) W6 _ ∧ _›).1 hsW6 hb8; have hz8 := pcell hb8; have hy8 := fun b o => (bcell hb8).2 b o; have hs8 := hb8.size; (try simp only [World.size_alloc, Nat.add_one_le_iff] at hs8)))
        all_goals (go_wp2_with fail; go_meet)
        · have h9 := ho8.rows.below ((Below.refl w8.heap.size w8).alloc (Nat.le_refl _) (.cells #[.int .i64 r, .slice A8 Z.length c8] 24)) (Nat.le_refl _)
          rw [HZl.out] at h9 ⊢
          refine ⟨_, A8, c8, rfl, rfl, ?_, ?_, hbS8.alloc (by have := hbS8.size; omega) _, h9.mono (by simp)⟩
          · show _ = _; simp [go_sem]
          · show _ = _; simp [go_sem]
        all_goals
          have hzl := HZl.out
          refine ⟨_, A8, c8, rfl, rfl, ?_, ?_, set2_below hbS8 (by omega), ?_⟩
          · show _ = _; go_simp
          · show _ = _; rw [← hzl]; go_simp
          · rw [← hzl]
            exact own_rows_set2 ho8 (by first | omega | (simp; done) | (simp; omega)) _ _
      case rest =>
        obtain ⟨g', A', c', rfl, rfl, hd0, hd1, hBd, hRd⟩ := hcut
        have hd0' := hd0.out
        have hd1' := hd1.out
        have hszc := hBd.out.size
        have hbwc : Below w.heap.size w wc := hbW6.trans (hBd.out.mono (by omega))
        have hca0' : wc.cell? ⟨g, 0, none⟩ = some (.int .i64 r) := (pcell hBd.out _ (by dsimp only; omega)).trans gca0
        have hca1' : wc.cell? ⟨g, 1, none⟩ = some (.slice A1 k c1) := (pcell hBd.out _ (by dsimp only; omega)).trans gca1
        have HYc := Lib.hid (KY.out.below (hBd.out.mono (show g ≤ g6 + 1 by omega)) (Nat.le_refl _))
        clear gcs0 gcs1 gsp0 gsp1 gca0 gca1 gcr0 gcr1 KS KY KR HF2 hd0 hd1
        have hgc : g < wc.heap.size := by omega
        go_wp2_with fail
        refine (REVERSED_any r A' k c' Z _ wc.heap.size (Nat.le_refl _) hRd.out).mono ?_
        rw [hR2.out]
        rintro e w9 ⟨v9, rfl, ho9, hb9⟩
        obtain ⟨A9, c9, rfl, _, _⟩ := ho9.form
        dsimp only at ho9 ⊢
        have hs9 := hb9.size
        have hz9 := pcell hb9
        have hlt9 : g < w9.heap.size := by omega
        have hst : sameS r Y r Y = true := by simp [sameS]
        have HX := Lib.hid ((HYc.out.below (hb9.mono (show g ≤ wc.heap.size by omega)) (Nat.le_refl _)).mono (show g ≤ w9.heap.size by omega))
        have HW := Lib.hid ho9.rows
        rw [HYl.out] at HW ⊢
        clear hd0' hd1' ho9
        go_wp2_with fail
        refine (SAME_any _ _ _ _ _ _ _ _ Y Y _ w9.heap.size (by simp) (HX.out.below ((Below.refl _ _).alloc (Nat.le_refl _) _) (Nat.le_refl _)) (HW.out.below ((Below.refl _ _).alloc (Nat.le_refl _) _) (Nat.le_refl _))).mono ?_
        rintro e w3 ⟨rfl, hb3⟩
        rw [hst]
        go_wp2_with fail
        refine (AWAKE_any _).mono ?_
        rintro e w4 ⟨rfl, hb4⟩
        go_wp2_with fail
        go_ret
        have hs3 := hb3.size
        simp only [World.size_alloc] at hs3
        have hsw := hbwc.size
        exact ⟨rfl, hbwc.trans (((hb9.mono hsw).alloc (by omega) _).trans ((hb3.mono (by simp; omega)).trans (hb4.mono (by omega))))⟩
end Go.Proofs.Ytpnbkkpbgpcgiaa
