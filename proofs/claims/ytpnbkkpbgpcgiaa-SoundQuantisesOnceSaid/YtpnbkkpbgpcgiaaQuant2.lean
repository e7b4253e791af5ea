/- Quantise on the sound's side. -/
import Derived.Test.YtpnbkkpbgpcgiaaQuant1
import Derived.Test.YtpnbkkpbgpcgiaaEnds2
set_option linter.unusedSimpArgs false
set_option linter.unusedVariables false
namespace Go.Proofs.Ytpnbkkpbgpcgiaa
open Go.RowKit Go.Dw
attribute [local go_sem ↓] Go.wp_at_zero Go.wp_at_succ

set_option maxHeartbeats 800000 in
theorem QUANT_chk (r : Int) (A : Option Addr) (n c : Nat) (b : Int) (xss : List (List Int)) (hc : chkS r xss ≠ 0) (w : World) (B : Nat) (hB : B ≤ w.heap.size) (hh : Hid (RowsAt w B A n xss)) :
    Calls Try.prog 26 #[.agg #[.int .i64 r, .slice A n c], .int .i64 b] w (OutS3 w 0 [] 0 (chkS r xss)) := by
  have hq : (chkS r xss != 0) = true := by simpa using hc
  clear hc
  go_enter Try.func26, Try.ntmps26
  go_wp2_with fail
  refine calls_later (w.heap.size + 2) ?_
  intro W hW hsW
  obtain ⟨hcW, hfW⟩ := bcell hW
  simp only [World.size_alloc] at hsW
  have hbW : Below w.heap.size w W := (((Below.refl _ w).alloc (Nat.le_refl _) _).alloc (by simp) _).trans (hW.mono (by omega))
  go_wp2_with (go_at_call 37; refine (CHECK_any r A n c xss _ B (by omega) (hh.out.below hbW hB)).mono ?_; rintro e w1 ⟨rfl, hb1⟩; have hz1 := pcell (hb1.mono hsW); have hz2 := fun b o => (bcell (hb1.mono hsW)).2 b o)
  refine end_snd3 (o0 := .int .i64 0) (o1 := .slice none 0 0) rfl rfl rfl ?_ ?_ ?_
  · rw [hz1 _ (by simp), hcW _ _ (by simp)]; simp [go_sem]
  · rw [hz1 _ (by simp), hcW _ _ (by simp)]; simp [go_sem]
  · exact OutS3.err rfl (set2_below (hbW.trans (hb1.mono (by omega))) (by omega))
set_option maxHeartbeats 800000 in
theorem QUANT_bad (r : Int) (A : Option Addr) (n c : Nat) (b : Int) (xss : List (List Int)) (hc : Hid (chkS r xss = 0)) (hb : b < 1 ∨ 24 < b) (w : World) (B : Nat) (hB : B ≤ w.heap.size) (hh : Hid (RowsAt w B A n xss)) :
    Calls Try.prog 26 #[.agg #[.int .i64 r, .slice A n c], .int .i64 b] w (OutS3 w 0 [] 0 1) := by
  have hq : (chkS r xss != 0) = false := by rw [hc.out]; rfl
  by_cases h1 : b < 1
  · have d1 : decide (b < 1) = true := by simpa using h1
    clear hb
    go_enter Try.func26, Try.ntmps26
    go_wp2_with fail
    refine calls_later (w.heap.size + 2) ?_
    intro W hW hsW
    obtain ⟨hcW, hfW⟩ := bcell hW
    simp only [World.size_alloc] at hsW
    have hbW : Below w.heap.size w W := (((Below.refl _ w).alloc (Nat.le_refl _) _).alloc (by simp) _).trans (hW.mono (by omega))
    go_wp2_with (go_at_call 37; refine (CHECK_any r A n c xss _ B (by omega) (hh.out.below hbW hB)).mono ?_; rintro e w1 ⟨rfl, hb1⟩; have hz1 := pcell (hb1.mono hsW); have hz2 := fun b o => (bcell (hb1.mono hsW)).2 b o)
    refine end_snd3 (o0 := .int .i64 0) (o1 := .slice none 0 0) rfl rfl rfl ?_ ?_ ?_
    · rw [hz1 _ (by simp), hcW _ _ (by simp)]; simp [go_sem]
    · rw [hz1 _ (by simp), hcW _ _ (by simp)]; simp [go_sem]
    · exact OutS3.err rfl (set2_below (hbW.trans (hb1.mono (by omega))) (by omega))
  · have d1 : decide (b < 1) = false := by simpa using h1
    have d2 : decide (24 < b) = true := by simp; omega
    clear hb
    go_enter Try.func26, Try.ntmps26
    go_wp2_with fail
    refine calls_later (w.heap.size + 2) ?_
    intro W hW hsW
    obtain ⟨hcW, hfW⟩ := bcell hW
    simp only [World.size_alloc] at hsW
    have hbW : Below w.heap.size w W := (((Below.refl _ w).alloc (Nat.le_refl _) _).alloc (by simp) _).trans (hW.mono (by omega))
    go_wp2_with (go_at_call 37; refine (CHECK_any r A n c xss _ B (by omega) (hh.out.below hbW hB)).mono ?_; rintro e w1 ⟨rfl, hb1⟩; have hz1 := pcell (hb1.mono hsW); have hz2 := fun b o => (bcell (hb1.mono hsW)).2 b o)
    refine end_snd3 (o0 := .int .i64 0) (o1 := .slice none 0 0) rfl rfl rfl ?_ ?_ ?_
    · rw [hz1 _ (by simp), hcW _ _ (by simp)]; simp [go_sem]
    · rw [hz1 _ (by simp), hcW _ _ (by simp)]; simp [go_sem]
    · exact OutS3.err rfl (set2_below (hbW.trans (hb1.mono (by omega))) (by omega))

set_option maxHeartbeats 2000000 in
theorem QUANT_ok (r : Int) (ad : Addr) (n c : Nat) (b : Int) (xss : List (List Int)) (hok : Hid (OkS r xss)) (hc : Hid (chkS r xss = 0)) (hb1 : 1 ≤ b) (hb2 : b ≤ 24) (w : World) (B : Nat) (hB : B ≤ w.heap.size) (hh : Hid (RowsAt w B (some ad) n xss)) :
    Calls Try.prog 26 #[.agg #[.int .i64 r, .slice (some ad) n c], .int .i64 b] w (OutS3 w r (xss.map (List.map (qV (qStep b)))) (stS (qC wInc (qStep b)) 0 xss) 0) := by
  have hq : (chkS r xss != 0) = false := by rw [hc.out]; rfl
  have d1 : decide (b < 1) = false := by simp; omega
  have d2 : decide (24 < b) = false := by simp; omega
  obtain ⟨st, hst⟩ : ∃ st, qStep b = st := ⟨_, rfl⟩
  have hs := qStep_bd hb1 hb2
  rw [hst] at hs ⊢
  obtain ⟨hs1, hs2⟩ := hs
  obtain ⟨t1, t2, t3, t4, -⟩ := qTop_bd hs1
  have HST : Hid (wrap64 (2 ^ (24 - b).toNat) = st) := by show _ = _; rw [← hst]; unfold qStep at hst ⊢; rw [hst]; exact IntWalk.wrap64_in _ ⟨by omega, by omega⟩
  go_enter Try.func26, Try.ntmps26
  go_wp2_with fail
  refine calls_later (w.heap.size + 2) ?_
  intro W hW hsW
  obtain ⟨hcW, hfW⟩ := bcell hW
  simp only [World.size_alloc] at hsW
  have hbW : Below w.heap.size w W := (((Below.refl _ w).alloc (Nat.le_refl _) _).alloc (by simp) _).trans (hW.mono (by omega))
  go_wp2_with (go_at_call 37; refine (CHECK_any r (some ad) n c xss _ B (by omega) (hh.out.below hbW hB)).mono ?_; rintro e w1 ⟨rfl, hb1⟩; have hz1 := pcell (hb1.mono hsW); have hz2 := fun b o => (bcell (hb1.mono hsW)).2 b o)
  rw [HST.out]
  obtain ⟨g0, hg0⟩ : ∃ g0, g0 = w1.heap.size := ⟨_, rfl⟩
  have hg1 : w.heap.size + 2 ≤ g0 := by have := hb1.size; omega
  rw [← hg0]
  refine wp_later (g0 + 1) ?_
  intro W2 hW2 hsW2
  simp only [World.size_alloc, ← hg0] at hsW2
  have hbw1 := hbW.trans (hb1.mono (show w.heap.size ≤ W.heap.size by omega))
  have hbW2 : Below w.heap.size w W2 := (hbw1.trans ((Below.refl _ _).alloc (by omega) _)).trans (hW2.mono (by omega))
  have hcs0 : W2.cell? ⟨w.heap.size, 0, none⟩ = some (.int .i64 r) := by
    rw [(bcell hW2).1 _ _ (by omega), World.cell?_alloc_lt _ _ _ (by dsimp only; omega), hz1 _ (by dsimp only; omega), hcW _ _ (by omega)]; simp [go_sem]
  have hcs1 : W2.cell? ⟨w.heap.size, 1, none⟩ = some (.slice (some ad) n c) := by
    rw [(bcell hW2).1 _ _ (by omega), World.cell?_alloc_lt _ _ _ (by dsimp only; omega), hz1 _ (by dsimp only; omega), hcW _ _ (by omega)]; simp [go_sem]
  have hcr0 : W2.cell? ⟨w.heap.size + 1, 0, none⟩ = some (.int .i64 0) := by
    rw [(bcell hW2).1 _ _ (by omega), World.cell?_alloc_lt _ _ _ (by dsimp only; omega), hz1 _ (by dsimp only; omega), hcW _ _ (by omega)]; simp [go_sem]
  have hcr1 : W2.cell? ⟨w.heap.size + 1, 1, none⟩ = some (.slice none 0 0) := by
    rw [(bcell hW2).1 _ _ (by omega), World.cell?_alloc_lt _ _ _ (by dsimp only; omega), hz1 _ (by dsimp only; omega), hcW _ _ (by omega)]; simp [go_sem]
  have hfz0 : W2.frozen? ⟨w.heap.size + 1, 0, none⟩ = false := by
    rw [(bcell hW2).2 _ _ (by omega), (bcell ((Below.refl w1.heap.size w1).alloc (Nat.le_refl _) (.cells #[.int .i64 st] 3))).2 _ _ (by omega), hz2 _ _ (by omega), hfW _ _ (by omega)]; simp [go_sem]
  have hfz1 : W2.frozen? ⟨w.heap.size + 1, 1, none⟩ = false := by
    rw [(bcell hW2).2 _ _ (by omega), (bcell ((Below.refl w1.heap.size w1).alloc (Nat.le_refl _) (.cells #[.int .i64 st] 3))).2 _ _ (by omega), hz2 _ _ (by omega), hfW _ _ (by omega)]; simp [go_sem]
  have hG0 : Hid (W2.heap[g0]? = some (.cells #[.int .i64 st] 3 (0, 0))) := by
    show _ = _
    rw [hW2.block g0 (by omega), hg0]; exact heap_alloc_new _ _
  have hc0 := cell_of_one hG0.out
  have Hg0 := Lib.hid hg0
  have hT : IntKind.i64.wrap (Int.tdiv 8388607 st) = 8388607 / st := by
    rw [Int.tdiv_eq_ediv_of_nonneg (by omega)]; exact IntWalk.i64_in _ (by omega)
  have hT2 : IntKind.i64.wrap (8388607 / st * st) = qTop st := IntWalk.i64_in _ (by unfold qTop at t1 t2; omega)
  have hs0 : ¬ st = 0 := by omega
  have hlt0 : g0 < W2.heap.size := by omega
  clear hW2 hz1 hz2 hcW hfW hW hb1 hsW hbW hg0 hbw1 hst HST
  have hlt1 : w.heap.size < W2.heap.size := by omega
  have hlt2 : w.heap.size + 1 < W2.heap.size := by omega
  go_region
  go_wp2_with fail
  refine (EACH_any (QJ g0 W2.heap.size (W2.heap.size + 1) st) (qV st) (qC wInc st) 0 70 #[.pointer (some ⟨g0, 0, none⟩), .pointer (some ⟨W2.heap.size, 0, none⟩), .pointer (some ⟨W2.heap.size + 1, 0, none⟩)] (some (W2.heap.size + 1)) r ad n c xss hok _ B ?h1 ?h2 ?h3 ?h4 ?h5 ?h6 ?h7).mono ?_
  case h1 => simp; omega
  case h2 => exact (hh.out.below (hbW2.mono hB) (Nat.le_refl _)).below (((Below.refl B W2).alloc (by omega) _).alloc (by simp; omega) _).drew (Nat.le_refl _)
  case h3 => intro k hk; injection hk with hk; subst hk; exact ⟨by omega, by simp⟩
  case h4 => 
    refine ⟨?_, ?_, ?_⟩
    · exact (Below.heap_alloc _ _ _ (by simp; omega)).trans ((Below.heap_alloc _ _ _ (by omega)).trans hG0.out)
    · exact (Below.heap_alloc _ _ _ (by simp)).trans (heap_alloc_new _ _)
    · have := heap_alloc_new (W2.alloc (.cells #[.int .i64 (qTop st)] 3)) (.cells #[.int .i64 0] 3)
      rw [World.size_alloc] at this; exact this
  case h5 => intro a b s h hb; simp at hb; exact h.below hb (by omega) (by omega) (by omega)
  case h6 => intro args W; rfl
  case h7 => intro x s w9 hx h9; exact QUANT1_any x st s g0 _ _ hx hs1 hs2 (by omega) (by omega) w9 h9
  rintro e w5 ⟨⟨v5, rfl, ho5⟩, hJ5, hg5⟩
  obtain ⟨A5, c5, rfl, _, _⟩ := ho5.form
  have hs5 := hg5.size
  simp only [World.size_drew, World.size_alloc] at hs5
  have hbk : ∀ i, i < W2.heap.size → w5.heap[i]? = W2.heap[i]? := fun i hi =>
    (hg5.block i (by simp; omega) (by simp; omega)).trans ((Below.heap_alloc _ _ _ (by simp; omega)).trans (Below.heap_alloc _ _ _ hi))
  have hr0 : w5.cell? ⟨w.heap.size + 1, 0, none⟩ = some (.int .i64 0) := (World.cell?_of_block (a := ⟨w.heap.size + 1, 0, none⟩) (hbk _ hlt2)).trans hcr0
  have hr1 : w5.cell? ⟨w.heap.size + 1, 1, none⟩ = some (.slice none 0 0) := (World.cell?_of_block (a := ⟨w.heap.size + 1, 1, none⟩) (hbk _ hlt2)).trans hcr1
  have hfr0 : w5.frozen? ⟨w.heap.size + 1, 0, none⟩ = false := (World.frozen?_of_block (a := ⟨w.heap.size + 1, 0, none⟩) (hbk _ hlt2)).trans hfz0
  have hfr1 : w5.frozen? ⟨w.heap.size + 1, 1, none⟩ = false := (World.frozen?_of_block (a := ⟨w.heap.size + 1, 1, none⟩) (hbk _ hlt2)).trans hfz1
  have hcc := cell_of_one hJ5.count
  have hB5 : Below w.heap.size w w5 := (hbW2.trans (((Below.refl _ W2).alloc (by omega) _).alloc (by simp; omega) _).drew).trans (grown_below hg5 (by simp; omega) (fun k e => by injection e with e; omega))
  obtain ⟨g2, hg2⟩ : ∃ g2, g2 = W2.heap.size + 1 := ⟨_, rfl⟩
  rw [← hg2] at hcc hs5 ⊢
  have Hg2 := Lib.hid hg2
  have hl9 : g2 < w5.heap.size := by omega
  have hl8 : w.heap.size + 1 < w5.heap.size := by omega
  obtain ⟨cnt, hcnt⟩ : ∃ cnt, stS (qC wInc st) 0 xss = cnt := ⟨_, rfl⟩
  rw [hcnt] at hcc
  have Hcnt := Lib.hid hcnt
  have hne1 : ¬ g2 = w.heap.size + 1 := by omega
  have hne2 : ¬ w.heap.size + 1 = g2 := by omega
  clear hg2 hJ5 hbk hcs0 hcs1 hcr0 hcr1 hc0 hcnt
  go_wp2_with fail
  go_region
  go_wp2_with fail
  have HS := two_set w5 (w.heap.size + 1) _ _ (.int .i64 r) (.slice A5 xss.length c5) hr0 hr1
  obtain ⟨rows, hL⟩ := ho5
  have hbe : Below w.heap.size w w5 := hB5
  simp only [List.length_map] at hL
  refine fin_snd3 rfl rfl rfl ((World.cell?_alloc_lt _ _ _ (by simp; omega)).trans HS.1) ((World.cell?_alloc_lt _ _ _ (by simp; omega)).trans HS.2) ?_
  rw [Hcnt.out]
  refine ⟨_, rfl, ⟨rows, ?_⟩, ((set2_below hbe (by omega)).alloc (by simp; omega) _).drew⟩
  exact ((((hL.base (show w.heap.size + 2 ≤ _ by simp; omega)).set_below (p := ⟨w.heap.size + 1, 0, none⟩) (by simp) _).set_below (p := ⟨w.heap.size + 1, 1, none⟩) (by simp) _).alloc _).drew.base (by omega)
theorem QUANT_any (r : Int) (A : Option Addr) (n c : Nat) (b : Int) (xss : List (List Int)) (w : World) (B : Nat) (hB : B ≤ w.heap.size) (hh : RowsAt w B A n xss) :
    Calls Try.prog 26 #[.agg #[.int .i64 r, .slice A n c], .int .i64 b] w (OutS3 w (quS wInc r xss b).1 (quS wInc r xss b).2.1 (quS wInc r xss b).2.2.1 (quS wInc r xss b).2.2.2) := by
  unfold quS
  by_cases hc : chkS r xss = 0
  · have hok := chkS_ok hc
    have hn : 0 < n := by have := hok.some; have := hh.1; omega
    obtain ⟨ad, rfl⟩ := hh.addr hn
    rw [if_neg (by simp [hc])]
    by_cases hb : b < 1 ∨ 24 < b
    · rw [if_pos hb]; exact QUANT_bad r _ n c b xss hc hb w B hB hh
    · rw [if_neg hb]; exact QUANT_ok r ad n c b xss hok hc (by omega) (by omega) w B hB hh
  · rw [if_pos hc]
    exact QUANT_chk r A n c b xss hc w B hB hh
end Go.Proofs.Ytpnbkkpbgpcgiaa
