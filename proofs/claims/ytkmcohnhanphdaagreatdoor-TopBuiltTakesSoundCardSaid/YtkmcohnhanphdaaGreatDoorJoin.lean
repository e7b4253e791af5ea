/- Join on both sides. -/
import Derived.Test.YtkmcohnhanphdaaGreatDoorBoth
import Derived.Test.YtkmcohnhanphdaaGreatDoorConcat
import Derived.Test.YtkmcohnhanphdaaGreatDoorWb
import Derived.Test.YtkmcohnhanphdaaGreatDoorRegion
import Derived.Deep.AppendLies
import Derived.Deep.RegionHeld3
import Derived.Deep.DeepCutAuto
import Derived.Deep.DrawnRows
set_option linter.unusedSimpArgs false
set_option linter.unusedVariables false
namespace Go.Proofs.YtkmcohnhanphdaaGreatDoor
open Go.RowKit Go.Dw
attribute [local go_sem ↓] Go.wp_at_zero Go.wp_at_succ

def jnK (xss yss : List (List Int)) (k : Nat) : List (List Int) := (List.range k).map fun a => rowOf xss a ++ rowOf yss a
theorem jnK_length {xss yss : List (List Int)} {k : Nat} : (jnK xss yss k).length = k := by simp [jnK]
theorem jnK_succ {xss yss : List (List Int)} {k : Nat} : jnK xss yss (k + 1) = jnK xss yss k ++ [rowOf xss k ++ rowOf yss k] := by simp [jnK, List.range_succ]
def joinS (r r' : Int) (xss yss : List (List Int)) : Int × List (List Int) × Int :=
  if both2 r r' xss yss ≠ 0 then (0, [], both2 r r' xss yss) else if 100000 < len0 xss + len0 yss then (0, [], 2) else (r, jnK xss yss xss.length, 0)


set_option maxHeartbeats 800000 in
theorem JOIN_err (r r' : Int) (A A' : Option Addr) (n n' c c' : Nat) (xss yss : List (List Int)) (hc : both2 r r' xss yss ≠ 0) (w : World) (B : Nat) (hB : B ≤ w.heap.size) (hh : Hid (RowsAt w B A n xss)) (hh' : Hid (RowsAt w B A' n' yss)) : Calls Tryz.prog 15 #[.agg #[.int .i64 r, .slice A n c], .agg #[.int .i64 r', .slice A' n' c']] w (OutS w 0 [] (both2 r r' xss yss)) := by
  have hq : (both2 r r' xss yss != 0) = true := by simpa using hc
  clear hc
  go_enter Tryz.func15, Tryz.ntmps15
  go_wp2_with fail
  refine calls_later (w.heap.size + 3) ?_
  intro W hW hsW
  obtain ⟨hcW, hfW⟩ := bcell hW
  simp only [World.size_alloc] at hsW
  have hbW : Below w.heap.size w W := ((((Below.refl _ w).alloc (Nat.le_refl _) _).alloc (by simp) _).alloc (by simp; omega) _).trans (hW.mono (by omega))
  refine (CHECKBOTH_any r r' A A' n n' c c' xss yss _ B (by omega) (hh.out.below hbW hB) (hh'.out.below hbW hB)).mono ?_
  rintro e w2 ⟨rfl, hb2⟩
  have hS2 : Below (w.heap.size + 3) W w2 := hb2.mono hsW
  have hz2 := pcell hS2
  have hy2 := (bcell hS2).2
  clear hb2
  go_wp2_with fail
  refine end_snd2 (o0 := .int .i64 0) (o1 := .slice none 0 0) rfl rfl rfl ?_ ?_ ?_
  · rw [hz2 _ (by simp), hcW _ _ (by simp)]; simp [go_sem]
  · rw [hz2 _ (by simp), hcW _ _ (by simp)]; simp [go_sem]
  · exact OutS.err rfl (set2_below (hbW.trans (hS2.mono (by omega))) (by omega))
set_option maxHeartbeats 800000 in
theorem JOIN_big (r r' : Int) (A A' : Option Addr) (n n' c c' : Nat) (xss yss : List (List Int)) (hc : Hid (both2 r r' xss yss = 0)) (hn : 0 < n) (hn' : 0 < n') (hm : len0 xss ≤ 100000) (hm' : len0 yss ≤ 100000) (hL : 100000 < len0 xss + len0 yss) (w : World) (B : Nat) (hB : B ≤ w.heap.size) (hh : Hid (RowsAt w B A n xss)) (hh' : Hid (RowsAt w B A' n' yss)) : Calls Tryz.prog 15 #[.agg #[.int .i64 r, .slice A n c], .agg #[.int .i64 r', .slice A' n' c']] w (OutS w 0 [] 2) := by
  have hq : (both2 r r' xss yss != 0) = false := by rw [hc.out]; rfl
  have hLI : (100000 : Int) < (len0 xss : Int) + (len0 yss : Int) := by omega
  have HWL := Lib.hid (IntWalk.i64_in ((len0 xss : Int) + (len0 yss : Int)) (by omega))
  go_enter Tryz.func15, Tryz.ntmps15
  go_wp2_with fail
  refine calls_later (w.heap.size + 3) ?_
  intro W hW hsW
  obtain ⟨hcW, hfW⟩ := bcell hW
  simp only [World.size_alloc] at hsW
  have hbW : Below w.heap.size w W := ((((Below.refl _ w).alloc (Nat.le_refl _) _).alloc (by simp) _).alloc (by simp; omega) _).trans (hW.mono (by omega))
  have HRx : Hid (RowsAt W B A n xss) := hh.out.below hbW hB
  have HRy : Hid (RowsAt W B A' n' yss) := hh'.out.below hbW hB
  refine (CHECKBOTH_any r r' A A' n n' c c' xss yss _ B (by omega) (hh.out.below hbW hB) (hh'.out.below hbW hB)).mono ?_
  rintro e w2 ⟨rfl, hb2⟩
  have hS2 : Below (w.heap.size + 3) W w2 := hb2.mono hsW
  have hz2 := pcell hS2
  have hy2 := (bcell hS2).2
  clear hb2
  go_wp2_with fail
  go_region_held3 (fun w' => Below (w.heap.size + 3) W w' ∧ ∀ z : Addr, z.block < w.heap.size + 3 → w'.cell? z = W.cell? z)
    ((refine (fun h => ⟨h, pcell h⟩) ?_; repeat (first | assumption | exact Below.refl _ _ | (refine Below.drew ?_) | (refine Below.alloc ?_ (by first | omega | (simp; omega) | exact Nat.le_trans hsW (Below.size (by assumption)) | (simp only [World.size_drew, World.size_alloc]; exact Nat.le_trans hsW (Nat.le_succ_of_le (Below.size (by assumption))))) _) | (refine Below.setCell ?_ (by first | omega | (simp; omega) | exact Nat.le_trans hsW (Below.size (by assumption))) _))))
    (first
      | (go_at_call 45; (with_reducible refine (LENGTH_any r A n c xss _ B ?_ ?_ hn).mono ?_); (exact Below.ge ‹Below (w.heap.size + 3) W _ ∧ _› hsW (by omega)); (exact HRx.out.below ((‹Below (w.heap.size + 3) W _ ∧ _›).1.mono (by omega)) (Nat.le_refl _)); rintro e w7 ⟨rfl, hb7⟩; have hbS := Below.next (‹Below (w.heap.size + 3) W _ ∧ _›).1 hsW hb7)
      | (go_at_call 45; (with_reducible refine (LENGTH_any r' A' n' c' yss _ B ?_ ?_ hn').mono ?_); (exact Below.ge ‹Below (w.heap.size + 3) W _ ∧ _› hsW (by omega)); (exact HRy.out.below ((‹Below (w.heap.size + 3) W _ ∧ _›).1.mono (by omega)) (Nat.le_refl _)); rintro e w7 ⟨rfl, hb7⟩; have hbS := Below.next (‹Below (w.heap.size + 3) W _ ∧ _›).1 hsW hb7))
  rw [HWL.out]
  clear hz2 hy2
  have hS9 := hbS
  have hz9 := pcell hS9
  have hy9 := (bcell hS9).2
  go_wp2_with fail
  refine end_snd2 (o0 := .int .i64 0) (o1 := .slice none 0 0) rfl rfl rfl ?_ ?_ ?_
  · rw [hz9 _ (by simp), hcW _ _ (by simp)]; simp [go_sem]
  · rw [hz9 _ (by simp), hcW _ _ (by simp)]; simp [go_sem]
  · exact OutS.err rfl (set2_below (hbW.trans (hS9.mono (by omega))) (by omega))
set_option maxRecDepth 100000 in
set_option maxHeartbeats 4000000 in
theorem JOIN_ok (r : Int) (ad ad' : Addr) (n c c' : Nat) (xss yss : List (List Int)) (hc : Hid (both1 r r xss yss = 0)) (hc2 : Hid (both2 r r xss yss = 0)) (hd : Hid (alikeB r r n n = 0)) (hok : Hid (OkS r xss)) (hok' : Hid (OkS r yss)) (hL : len0 xss + len0 yss ≤ 100000) (w : World) (B : Nat) (hB : B ≤ w.heap.size) (hh : Hid (RowsAt w B (some ad) n xss)) (hh' : Hid (RowsAt w B (some ad') n yss)) :
    Calls Tryz.prog 15 #[.agg #[.int .i64 r, .slice (some ad) n c], .agg #[.int .i64 r, .slice (some ad') n c']] w (OutS w r (jnK xss yss n) 0) := by
  obtain ⟨i0, hi0, hi1, hi2, hi3⟩ := info_parts ints_info
  have hl := Lib.hid hh.out.1
  have hl' := Lib.hid hh'.out.1
  have hn16 : n ≤ 16 := by have := hok.out.few; have := hl.out; omega
  have hn : 0 < n := by have := hok.out.some; have := hl.out; omega
  have hq : (both1 r r xss yss != 0) = false := by rw [hc.out]; rfl
  have hq0 : (both2 r r xss yss != 0) = false := by rw [hc2.out]; rfl
  have hq2 : (alikeB r r n n != 0) = false := by rw [hd.out]; rfl
  have hLI : ¬ (100000 : Int) < (len0 xss : Int) + (len0 yss : Int) := by omega
  have HWL := Lib.hid (IntWalk.i64_in ((len0 xss : Int) + (len0 yss : Int)) (by omega))
  have hn' := hn
  go_enter Tryz.func15, Tryz.ntmps15
  go_wp2_with fail
  refine calls_later (w.heap.size + 3) ?_
  intro W hW hsW
  obtain ⟨hcW, hfW⟩ := bcell hW
  simp only [World.size_alloc] at hsW
  have hbW : Below w.heap.size w W := ((((Below.refl _ w).alloc (Nat.le_refl _) _).alloc (by simp) _).alloc (by simp; omega) _).trans (hW.mono (by omega))
  have HRx : Hid (RowsAt W B (some ad) n xss) := hh.out.below hbW hB
  have HRy : Hid (RowsAt W B (some ad') n yss) := hh'.out.below hbW hB
  refine (CHECKBOTH_any r r (some ad) (some ad') n n c c' xss yss _ B (by omega) (hh.out.below hbW hB) (hh'.out.below hbW hB)).mono ?_
  rintro e w2 ⟨rfl, hb2⟩
  have hS2 : Below (w.heap.size + 3) W w2 := hb2.mono hsW
  have hz2 := pcell hS2
  have hy2 := (bcell hS2).2
  clear hb2
  go_wp2_with fail
  go_region_held3 (fun w' => Below (w.heap.size + 3) W w' ∧ ∀ z : Addr, z.block < w.heap.size + 3 → w'.cell? z = W.cell? z)
    ((refine (fun h => ⟨h, pcell h⟩) ?_; repeat (first | assumption | exact Below.refl _ _ | (refine Below.drew ?_) | (refine Below.alloc ?_ (by first | omega | (simp; omega) | exact Nat.le_trans hsW (Below.size (by assumption)) | (simp only [World.size_drew, World.size_alloc]; exact Nat.le_trans hsW (Nat.le_succ_of_le (Below.size (by assumption))))) _) | (refine Below.setCell ?_ (by first | omega | (simp; omega) | exact Nat.le_trans hsW (Below.size (by assumption))) _))))
    (first
      | (go_at_call 45; (with_reducible refine (LENGTH_any r (some ad) n c xss _ B ?_ ?_ hn).mono ?_); (exact Below.ge ‹Below (w.heap.size + 3) W _ ∧ _› hsW (by omega)); (exact HRx.out.below ((‹Below (w.heap.size + 3) W _ ∧ _›).1.mono (by omega)) (Nat.le_refl _)); rintro e w7 ⟨rfl, hb7⟩; have hbS := Below.next (‹Below (w.heap.size + 3) W _ ∧ _›).1 hsW hb7)
      | (go_at_call 45; (with_reducible refine (LENGTH_any r (some ad') n c' yss _ B ?_ ?_ hn').mono ?_); (exact Below.ge ‹Below (w.heap.size + 3) W _ ∧ _› hsW (by omega)); (exact HRy.out.below ((‹Below (w.heap.size + 3) W _ ∧ _›).1.mono (by omega)) (Nat.le_refl _)); rintro e w7 ⟨rfl, hb7⟩; have hbS := Below.next (‹Below (w.heap.size + 3) W _ ∧ _›).1 hsW hb7))
  clear hz2 hy2
  rw [HWL.out]
  have hbW2 : Below (w.heap.size + 3) W w7 := hbS
  have hz9 := pcell hbS
  have hy9 := (bcell hbS).2
  have hs9 := hbS.size
  have hlt0 : w.heap.size < w7.heap.size := by omega
  have hlt1 : w.heap.size + 1 < w7.heap.size := by omega
  have hlt2 : w.heap.size + 1 + 1 < w7.heap.size := by omega
  go_wp2_with fail
  have hbA : Below B w W := hbW.mono hB
  clear hz9 hy9 hs9 hbS
  obtain ⟨w2, hw7⟩ : ∃ w2, w2 = w7 := ⟨_, rfl⟩
  rw [← hw7] at hbW2 hlt0 hlt1 hlt2 ⊢
  clear hw7
  obtain ⟨g, hg⟩ : ∃ g, w2.heap.size = g := ⟨_, rfl⟩
  rw [hg] at hlt0 hlt1 hlt2 ⊢
  have Hg := Lib.hid hg
  have hNg : w.heap.size + 3 ≤ g := by omega
  clear hg
  go_loopw [29] (fun i wr => ∃ (k : Nat) (V : Value) (rows : List Value), k ≤ n ∧ i = .int .i64 k ∧ Hid (Below (w.heap.size + 3) W wr) ∧ Hid (wr.heap[g]? = some (.cells #[.int .i64 r, V] 33 (0, 0))) ∧ Hid (OwnRowsL wr (g + 1) V (jnK xss yss k) rows)) (fun i _ => n - (intOf i).toNat)
  case atStart =>
    refine ⟨0, .slice none 0 0, [], Nat.zero_le _, rfl, hbW2.alloc (by rw [Hg.out]; omega) _, ?_, ?_⟩
    · show _ = _
      rw [← Hg.out]; exact heap_alloc_new _ _
    · exact ⟨World.ownsRow_nil _ _ _ _, fun k r h => by simp at h, fun i j r r' _ h => by simp at h⟩
  case round =>
    obtain ⟨k, V, rows, hk, rfl, hb, hbox, hL⟩ := hrel
    have hgr : g < wr.heap.size := (Array.getElem?_eq_some_iff.1 hbox.out).1
    have hz := pcell hb.out
    have hcg0 := own_cell1 hbox.out 0
    have hcg1 := own_cell1 hbox.out 1
    simp at hcg0 hcg1
    by_cases hlt : k < n
    · obtain ⟨A3', n3', c3', hadB, hcell, hn3', hc3', hi⟩ := (hh.out.below hbA (Nat.le_refl _)).row hlt
      obtain ⟨A4', n4', c4', hadB', hcell', hn4', hc4', hi'⟩ := (hh'.out.below hbA (Nat.le_refl _)).row hlt
      have hkx : Hid (k < xss.length) := by show _ < _; have := hl.out; omega
      have hky : Hid (k < yss.length) := by show _ < _; have := hl'.out; omega
      obtain rfl : n3' = len0 xss := hi.1.symm.trans (hok.out.row hkx.out).1
      obtain rfl : n4' = len0 yss := hi'.1.symm.trans (hok'.out.row hky.out).1
      have hx' := Lib.hid hi
      have hy' := Lib.hid hi'
      clear hi hi'
      unfold maxLen at hc3' hc4'
      have hout : wr.ownsRow (g + 1) 42 1 V k rows := by
        have := hL.out.outer
        rwa [jnK_length] at this
      have hk0 : (0 : Int) ≤ (k : Int) := by omega
      have hkn : (k : Int) < (n : Int) := by omega
      have hadk : (ad.add k).block < w.heap.size + 3 := by rw [block_of_add]; omega
      have hadk' : (ad'.add k).block < w.heap.size + 3 := by rw [block_of_add]; omega
      go_wp2_with fail
      have hS : Below (w.heap.size + 3) W wr.drew ∧ (∀ z : Addr, z.block < w.heap.size + 3 → wr.drew.cell? z = W.cell? z) ∧ wr.drew.heap[g]? = some (.cells #[.int .i64 r, V] 33 (0, 0)) ∧ wr.drew.cell? ⟨g, 1, none⟩ = some V := ⟨hb.out.drew, pcell hb.out.drew, hbox.out, own_cell1 hbox.out 1⟩
      refine wp_region_head 16 (fun w' => Below (w.heap.size + 3) W w' ∧ (∀ z : Addr, z.block < w.heap.size + 3 → w'.cell? z = W.cell? z) ∧ w'.heap[g]? = some (.cells #[.int .i64 r, V] 33 (0, 0)) ∧ w'.cell? ⟨g, 1, none⟩ = some V) (by kernel_rfl) (by kernel_rfl) ?_
      refine HL.take (i := 0) (oi := _) (v := ?_) rfl (by kernel_rfl) (by kernel_rfl) (by decide) (fun _ _ _ h => h) (Or.inl ⟨by rfl, ?_⟩) hS ?_
      rotate_left
      · intro wz hwz
        try dsimp only at hwz
        go_simp
        try with_reducible rfl
      simp only [Act.put, List.setIfInBounds_toArray, List.set_cons_zero, List.set_cons_succ]
      refine HL.take (i := 1) (oi := _) (v := ?_) rfl (by kernel_rfl) (by kernel_rfl) (by decide) (fun _ _ _ h => h) (Or.inl ⟨by rfl, ?_⟩) hS ?_
      rotate_left
      · intro wz hwz
        try dsimp only at hwz
        go_simp
        try with_reducible rfl
      simp only [Act.put, List.setIfInBounds_toArray, List.set_cons_zero, List.set_cons_succ]
      refine HL.take (i := 2) (oi := _) (v := ?_) rfl (by kernel_rfl) (by kernel_rfl) (by decide) (fun _ _ _ h => h) (Or.inl ⟨by rfl, ?_⟩) hS ?_
      rotate_left
      · intro wz hwz
        try dsimp only at hwz
        go_simp
        try with_reducible rfl
      simp only [Act.put, List.setIfInBounds_toArray, List.set_cons_zero, List.set_cons_succ]
      refine HL.take (i := 3) (oi := _) (v := ?_) rfl (by kernel_rfl) (by kernel_rfl) (by decide) (fun _ _ _ h => h) (Or.inl ⟨by rfl, ?_⟩) hS ?_
      rotate_left
      · intro wz hwz
        try dsimp only at hwz
        go_simp
        try with_reducible rfl
      simp only [Act.put, List.setIfInBounds_toArray, List.set_cons_zero, List.set_cons_succ]
      refine HL.take (i := 4) (oi := _) (v := ?_) rfl (by kernel_rfl) (by kernel_rfl) (by decide) (fun _ _ _ h => h) (Or.inl ⟨by rfl, ?_⟩) hS ?_
      rotate_left
      · intro wz hwz
        try dsimp only at hwz
        go_simp
        try with_reducible rfl
      simp only [Act.put, List.setIfInBounds_toArray, List.set_cons_zero, List.set_cons_succ]
      refine HL.take (i := 5) (oi := _) (v := ?_) rfl (by kernel_rfl) (by kernel_rfl) (by decide) (fun _ _ _ h => h) (Or.inl ⟨by rfl, ?_⟩) hS ?_
      rotate_left
      · intro wz hwz
        try dsimp only at hwz
        go_simp
        try with_reducible rfl
      simp only [Act.put, List.setIfInBounds_toArray, List.set_cons_zero, List.set_cons_succ]
      refine HL.take (i := 6) (oi := _) (v := ?_) rfl (by kernel_rfl) (by kernel_rfl) (by decide) (fun _ _ _ h => h) (Or.inl ⟨by rfl, ?_⟩) hS ?_
      rotate_left
      · intro wz hwz
        try dsimp only at hwz
        go_simp
        try with_reducible rfl
      simp only [Act.put, List.setIfInBounds_toArray, List.set_cons_zero, List.set_cons_succ]
      refine HL.take (i := 7) (oi := _) (v := ?_) rfl (by kernel_rfl) (by kernel_rfl) (by decide) (fun _ _ _ h => h) (Or.inl ⟨by rfl, ?_⟩) hS ?_
      rotate_left
      · intro wz hwz
        try dsimp only at hwz
        go_simp
        try with_reducible rfl
      simp only [Act.put, List.setIfInBounds_toArray, List.set_cons_zero, List.set_cons_succ]
      refine HL.take (i := 8) (oi := _) (v := ?_) rfl (by kernel_rfl) (by kernel_rfl) (by decide) (fun _ _ _ h => h) (Or.inl ⟨by rfl, ?_⟩) hS ?_
      rotate_left
      · intro wz hwz
        try dsimp only at hwz
        go_simp
        try with_reducible rfl
      simp only [Act.put, List.setIfInBounds_toArray, List.set_cons_zero, List.set_cons_succ]
      refine HL.take (i := 9) (oi := _) (v := ?_) rfl (by kernel_rfl) (by kernel_rfl) (by decide) (fun _ _ _ h => h) (Or.inl ⟨by rfl, ?_⟩) hS ?_
      rotate_left
      · intro wz hwz
        try dsimp only at hwz
        go_simp
        try with_reducible rfl
      simp only [Act.put, List.setIfInBounds_toArray, List.set_cons_zero, List.set_cons_succ]
      refine HL.take (i := 10) (oi := _) (v := ?_) rfl (by kernel_rfl) (by kernel_rfl) (by decide) (fun _ _ _ h => h) (Or.inl ⟨by rfl, ?_⟩) hS ?_
      rotate_left
      · intro wz hwz
        try dsimp only at hwz
        go_simp
        try with_reducible rfl
      simp only [Act.put, List.setIfInBounds_toArray, List.set_cons_zero, List.set_cons_succ]
      refine HL.take (i := 11) (oi := _) (v := ?_) rfl (by kernel_rfl) (by kernel_rfl) (by decide) (fun _ _ _ h => h) (Or.inl ⟨by rfl, ?_⟩) hS ?_
      rotate_left
      · intro wz hwz
        try dsimp only at hwz
        go_simp
        try with_reducible rfl
      simp only [Act.put, List.setIfInBounds_toArray, List.set_cons_zero, List.set_cons_succ]
      refine HL.one (i := 12) (o := _) rfl (by kernel_rfl) (by decide) (by rfl) ?_
      intro K hK
      go_simp
      have hS0 := hS
      clear hS
      obtain ⟨wa, hwa⟩ : ∃ wa, wa = (wr.alloc (.cells #[.slice A3' (len0 xss) c3', .slice A4' (len0 yss) c4'] 42)).drew := ⟨_, rfl⟩
      have hsr := blk_lt hbox.out
      have hsrN : w.heap.size + 3 ≤ wr.heap.size := Nat.le_trans hsW hb.out.size
      have hba : Below (w.heap.size + 3) W wa := by rw [hwa]; exact (hb.out.alloc hsrN _).drew
      have hgwa : g < wa.heap.size := by rw [hwa]; simp; omega
      have hxa : wa.heap[g]? = some (.cells #[.int .i64 r, V] 33 (0, 0)) := by rw [hwa]; exact (Below.heap_alloc _ _ _ hsr).trans hbox.out
      have HRW : Hid (RowsAt wa wa.heap.size (some ⟨wr.heap.size, 0, none⟩) 2 [rowOf xss k, rowOf yss k]) := by
        show RowsAt _ _ _ _ _
        have hp0 : wa.cell? ⟨wr.heap.size, 0, none⟩ = some (.slice A3' (len0 xss) c3') := by rw [hwa]; simp [go_sem]
        have hp1 : wa.cell? ⟨wr.heap.size, 1, none⟩ = some (.slice A4' (len0 yss) c4') := by rw [hwa]; simp [go_sem]
        refine ⟨rfl, by unfold maxLen; omega, fun j hj => ⟨_, rfl, by rw [hwa]; simp, ?_⟩⟩
        have hj2 : j = 0 ∨ j = 1 := by omega
        rcases hj2 with rfl | rfl
        · exact ⟨A3', _, c3', hp0, hn3', by unfold maxLen; omega, (hx'.out.below (hba.mono (by omega)) (Nat.le_refl _)).mono (by have := hba.size; omega)⟩
        · exact ⟨A4', _, c4', hp1, hn4', by unfold maxLen; omega, (hy'.out.below (hba.mono (by omega)) (Nat.le_refl _)).mono (by have := hba.size; omega)⟩
      have hS : Below (w.heap.size + 3) W wa ∧ (∀ z : Addr, z.block < w.heap.size + 3 → wa.cell? z = W.cell? z) ∧ wa.heap[g]? = some (.cells #[.int .i64 r, V] 33 (0, 0)) ∧ wa.cell? ⟨g, 1, none⟩ = some V := ⟨hba, pcell hba, hxa, own_cell1 hxa 1⟩
      have houta : wa.ownsRow (g + 1) 42 1 V k rows := by rw [hwa]; exact own_below hout ((Below.refl _ _).alloc (Nat.le_refl _) _).drew
      have HLa : Hid (OwnRowsL wa (g + 1) V (jnK xss yss k) rows) := by show OwnRowsL _ _ _ _ _; rw [hwa]; exact (hL.out.alloc _).drew
      rw [← hwa]
      clear hwa hS0
      refine hK.out _ _ hS ?_
      try simp only [Act.put, List.setIfInBounds_toArray, List.set_cons_zero, List.set_cons_succ]
      clear hK K
      refine HL.one (i := 13) (o := _) rfl (by kernel_rfl) (by decide) (by rfl) ?_
      intro K hK
      go_simp
      have hFL : Hid (([rowOf xss k, rowOf yss k] : List (List Int)).flatten = rowOf xss k ++ rowOf yss k) := by show _ = _; simp
      have hLn : (rowOf xss k ++ rowOf yss k).length = len0 xss + len0 yss := by rw [List.length_append, (hok.out.row hkx.out).1, (hok'.out.row hky.out).1]
      refine (CONCAT_any _ 2 2 _ _ hFL _ _ (Nat.le_refl _) (by omega) (by omega) HRW).mono ?_
      rw [hLn]
      rintro e w3 ⟨⟨A3, c3, rfl, hown3⟩, hb3⟩
      have hbS := Below.next hS.1 hsW hb3
      have hbx3 := (hb3.block g (blk_lt hS.2.2.1)).trans hS.2.2.1
      have hlt3 : g < w3.heap.size := blk_lt hbx3
      have hN3 : w.heap.size + 3 ≤ w3.heap.size := Nat.le_trans hsW hbS.size
      clear hS
      have hS : Below (w.heap.size + 3) W w3 ∧ (∀ z : Addr, z.block < w.heap.size + 3 → w3.cell? z = W.cell? z) ∧ w3.heap[g]? = some (.cells #[.int .i64 r, V] 33 (0, 0)) ∧ w3.cell? ⟨g, 1, none⟩ = some V := ⟨hbS, pcell hbS, hbx3, own_cell1 hbx3 1⟩
      refine hK.out _ _ hS ?_
      try simp only [Act.put, List.setIfInBounds_toArray, List.set_cons_zero, List.set_cons_succ]
      clear hK K
      refine HL.one (i := 14) (o := _) rfl (by kernel_rfl) (by decide) (by rfl) ?_
      intro K hK
      go_simp
      have hS' := hS
      clear hS
      have hS : Below (w.heap.size + 3) W (w3.alloc (.cells #[.slice A3 (len0 xss + len0 yss) c3] 42)) ∧ (∀ z : Addr, z.block < w.heap.size + 3 → (w3.alloc (.cells #[.slice A3 (len0 xss + len0 yss) c3] 42)).cell? z = W.cell? z) ∧ (w3.alloc (.cells #[.slice A3 (len0 xss + len0 yss) c3] 42)).heap[g]? = some (.cells #[.int .i64 r, V] 33 (0, 0)) ∧ (w3.alloc (.cells #[.slice A3 (len0 xss + len0 yss) c3] 42)).cell? ⟨g, 1, none⟩ = some V := ⟨hbS.alloc hN3 _, pcell (hbS.alloc hN3 _), (Below.heap_alloc _ _ _ hlt3).trans hbx3, own_cell1 ((Below.heap_alloc _ _ _ hlt3).trans hbx3) 1⟩
      refine hK.out _ _ hS ?_
      try simp only [Act.put, List.setIfInBounds_toArray, List.set_cons_zero, List.set_cons_succ]
      clear hK K hS'
      refine HL.one (i := 15) (o := _) rfl (by kernel_rfl) (by decide) (by rfl) ?_
      intro K hK
      refine wp_append_lies _ (.tmp 33) (.tmp 46) 31 (by rfl) (g + 1) 42 i0 _ 1 24 Tryz.underlying31 hi0 hi1 hi2 hi3 rfl (by omega) V k rows (by rfl) ((own_below houta hb3).alloc _) ⟨w3.heap.size, 0, none⟩ 1 1 [.slice A3 (len0 xss + len0 yss) c3] (by rfl) rfl (cell_one_new _ _ _) (by intro u hu; simp at hu; subst hu; rfl) (by omega) (by simp only [maxLen]; omega) (by omega) (by simp; omega) (w3.heap.size + 1) (by simp) ?_
      intro g4 cap4 w4 hown4 hg4 hat4 hlt4
      have hVb : ∀ j, V.ownBlock = some j → g + 1 ≤ j := fun j hj => (own_lt hout hj).1
      have hbS4 := (hbS.alloc hN3 (.cells #[.slice A3 (len0 xss + len0 yss) c3] 42)).grown hg4 (by simp; omega) (fun j hj => by have := hVb j hj; omega)
      have hbx4 := (hg4.block g (by simp; omega) (fun e => by have := hVb g e.symm; omega)).trans ((Below.heap_alloc _ _ _ hlt3).trans hbx3)
      refine hK.out _ _ ⟨hbS4, pcell hbS4, hbx4, own_cell1 hbx4 1⟩ ?_
      try simp only [Act.put, List.setIfInBounds_toArray, List.set_cons_zero, List.set_cons_succ]
      clear hK K hS
      refine HL.done (by kernel_rfl) ?_
      simp only [List.drop_succ_cons, List.drop_zero]
      have hcg4 := own_cell1 hbx4 1
      have hfz4 := frozen_of_row w4 g 1 _ _ hbx4
      simp at hcg4
      clear hz hcg0 hcg1
      go_wp2
      have hkl : (jnK xss yss k).length = k := jnK_length
      have hpush := HLa.out.push (w := w3.alloc (.cells #[.slice A3 (len0 xss + len0 yss) c3] 42)) (w' := w4) (xs := rowOf xss k ++ rowOf yss k) (hb3.alloc hb3.size _) (by omega) (by rw [hLn]; exact hown3.alloc _) (by rw [hkl]; exact hown4) hg4
      have HP := Lib.hid hpush
      have hbx5 := heap_setCell_same w4 g 1 _ _ (.slice (some ⟨g4, 0, none⟩) (k + 1) cap4) hbx4
      have HB := Lib.hid hbx5
      clear hkl hpush hbx5
      go_roundw
      case rel =>
        refine ⟨k + 1, _, rows ++ [.slice A3 (len0 xss + len0 yss) c3], by omega, by go_num, hbS4.setCell (p := ⟨g, 1, none⟩) hNg _, HB.out, ?_⟩
        show OwnRowsL _ _ _ _ _
        rw [jnK_succ]
        exact HP.out.set_below (p := ⟨g, 1, none⟩) (by simp) _
      case measure => simp [intOf]; omega
    · obtain rfl : k = n := by omega
      obtain ⟨AV, cV, hVe, _, _⟩ := own_form hL.out.outer
      rw [jnK_length] at hVe
      subst hVe
      have hcr0 : wr.cell? ⟨w.heap.size + 1 + 1, 0, none⟩ = some (.int .i64 0) := by rw [hz _ (by simp), hcW _ _ (by simp)]; simp [go_sem]
      have hcr1 : wr.cell? ⟨w.heap.size + 1 + 1, 1, none⟩ = some (.slice none 0 0) := by rw [hz _ (by simp), hcW _ _ (by simp)]; simp [go_sem]
      have hfr := fun b o h => ((bcell hb.out).2 b o h)
      go_wp2
      refine end_snd2 rfl rfl rfl hcr0 hcr1 ?_
      refine ⟨_, rfl, ⟨rows, ?_⟩, set2_below (hbW.trans (hb.out.mono (by omega))) (by omega)⟩
      have h1 := hL.out
      exact ((h1.set_below (p := ⟨w.heap.size + 1 + 1, 0, none⟩) (show w.heap.size + 1 + 1 < g + 1 by omega) _).set_below (p := ⟨w.heap.size + 1 + 1, 1, none⟩) (show w.heap.size + 1 + 1 < g + 1 by omega) _).base (show w.heap.size ≤ g + 1 by omega)
theorem both1_zero {r r' : Int} {xss yss : List (List Int)} (h : both1 r r' xss yss = 0) : OkS r xss ∧ OkS r' yss := by
  unfold both1 at h
  split at h
  · contradiction
  · exact ⟨chkS_ok (by omega), chkS_ok h⟩
theorem both2_zero {r r' : Int} {xss yss : List (List Int)} (h : both2 r r' xss yss = 0) : both1 r r' xss yss = 0 ∧ r = r' ∧ xss.length = yss.length := by
  unfold both2 at h
  split at h
  · contradiction
  · unfold alikeB at h
    split at h
    · cases h
    · exact ⟨by omega, by omega, by omega⟩
theorem JOIN_any (r r' : Int) (A A' : Option Addr) (n n' c c' : Nat) (xss yss : List (List Int)) (w : World) (B : Nat) (hB : B ≤ w.heap.size) (hh : RowsAt w B A n xss) (hh' : RowsAt w B A' n' yss) :
    Calls Tryz.prog 15 #[.agg #[.int .i64 r, .slice A n c], .agg #[.int .i64 r', .slice A' n' c']] w (OutS w (joinS r r' xss yss).1 (joinS r r' xss yss).2.1 (joinS r r' xss yss).2.2) := by
  unfold joinS
  by_cases hc : both2 r r' xss yss = 0
  · rw [if_neg (by simp [hc])]
    obtain ⟨h1, rfl, h3⟩ := both2_zero hc
    obtain ⟨hok, hok'⟩ := both1_zero h1
    have hl := hh.1
    have hl' := hh'.1
    have hn : 0 < n := by have := hok.some; omega
    have hn' : 0 < n' := by have := hok'.some; omega
    by_cases hL : 100000 < len0 xss + len0 yss
    · rw [if_pos hL]; exact JOIN_big r r A A' n n' c c' xss yss hc hn hn' hok.long hok'.long hL w B hB hh hh'
    · rw [if_neg hL]
      obtain rfl : n = n' := by omega
      obtain ⟨ad, rfl⟩ := hh.addr hn
      obtain ⟨ad', rfl⟩ := hh'.addr hn
      dsimp only
      rw [hl]
      exact JOIN_ok r ad ad' n c c' xss yss h1 hc (if_neg (by simp)) hok hok' (by omega) w B hB hh hh'
  · rw [if_pos hc]; exact JOIN_err r r' A A' n n' c c' xss yss hc w B hB hh hh'
end Go.Proofs.YtkmcohnhanphdaaGreatDoor
