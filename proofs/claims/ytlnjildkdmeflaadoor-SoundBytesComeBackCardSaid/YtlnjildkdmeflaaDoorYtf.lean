/- takeForm. -/
import Derived.Test.YtlnjildkdmeflaaDoorYrd
import Derived.Test.YtlnjildkdmeflaaDoorWc
import Derived.Test.YtlnjildkdmeflaaDoorWb
import Derived.Deep.Cut
import Derived.Deep.QuietTactic
import Derived.BigQuiet
set_option linter.unusedSimpArgs false
set_option linter.unusedVariables false
namespace Go.Proofs.YtlnjildkdmeflaaDoor
open Go.RowKit Go.Dw
theorem run_cut_to (A : Option Addr) (n c q : Nat) (hq : q ≤ c) (W : World) :
    (Instr.slice 26 (.slice A n c) none (some (.int .i64 q)) none).run Tryd.prog W = .ok (.slice (cutA A c 0) q c) W := by
  obtain ⟨i1, e0, e1, e2, e3⟩ := info_parts byte_info
  have he : Tryd.prog.elem 26 = 5 := by simp [Program.elem, Tryd.underlying26]
  rw [run_slice_h (P := Tryd.prog) (w := W) 26 A n c (by rw [he]; exact Tryd.underlying26) .i64 q (by omega) (by omega)]
  rw [he]
  simp [sizeOf, typeInfo, e0, e2, sliced, cutA, go_sem]
theorem run_cut_from (A : Option Addr) (n c p : Nat) (hp : p ≤ n) (hn : n ≤ c) (W : World) :
    (Instr.slice 26 (.slice A n c) (some (.int .i64 p)) none none).run Tryd.prog W = .ok (.slice (cutA A c p) (n - p) (c - p)) W := by
  obtain ⟨i1, e0, e1, e2, e3⟩ := info_parts byte_info
  have he : Tryd.prog.elem 26 = 5 := by simp [Program.elem, Tryd.underlying26]
  rw [run_slice_l (P := Tryd.prog) (w := W) 26 A n c (by rw [he]; exact Tryd.underlying26) .i64 p (by omega) (by omega)]
  rw [he]
  simp [sizeOf, typeInfo, e0, e2, sliced, cutA, go_sem]
theorem form_cases (v4 v6 v8 v9 : Nat) :
    (formG v4 v6 v8 v9 = false ∧ rateB (v4 : Nat) = false) ∨
    (formG v4 v6 v8 v9 = false ∧ rateB (v4 : Nat) = true ∧ decide ((v6 : Int) < 1) = true) ∨
    (formG v4 v6 v8 v9 = false ∧ rateB (v4 : Nat) = true ∧ decide ((v6 : Int) < 1) = false ∧ decide ((16 : Int) < (v6 : Int)) = true) ∨
    (formG v4 v6 v8 v9 = false ∧ rateB (v4 : Nat) = true ∧ decide ((v6 : Int) < 1) = false ∧ decide ((16 : Int) < (v6 : Int)) = false ∧ ((v8 : Int) != 16) = true ∧ ((v8 : Int) != 24) = true) ∨
    (formG v4 v6 v8 v9 = false ∧ rateB (v4 : Nat) = true ∧ decide ((v6 : Int) < 1) = false ∧ decide ((16 : Int) < (v6 : Int)) = false ∧ ((v8 : Int) != 16) = false ∧ decide ((100000 : Int) < (v9 : Int)) = true) ∨
    (formG v4 v6 v8 v9 = false ∧ rateB (v4 : Nat) = true ∧ decide ((v6 : Int) < 1) = false ∧ decide ((16 : Int) < (v6 : Int)) = false ∧ ((v8 : Int) != 16) = true ∧ ((v8 : Int) != 24) = false ∧ decide ((100000 : Int) < (v9 : Int)) = true) ∨
    (formG v4 v6 v8 v9 = true ∧ rateB (v4 : Nat) = true ∧ decide ((v6 : Int) < 1) = false ∧ decide ((16 : Int) < (v6 : Int)) = false ∧ ((v8 : Int) != 16) = false ∧ decide ((100000 : Int) < (v9 : Int)) = false) ∨
    (formG v4 v6 v8 v9 = true ∧ rateB (v4 : Nat) = true ∧ decide ((v6 : Int) < 1) = false ∧ decide ((16 : Int) < (v6 : Int)) = false ∧ ((v8 : Int) != 16) = true ∧ ((v8 : Int) != 24) = false ∧ decide ((100000 : Int) < (v9 : Int)) = false) := by
  unfold formG
  cases hr : rateB (v4 : Nat) with
  | false => simp
  | true =>
    simp only [Bool.true_and, true_and, Bool.false_eq_true, and_false, false_or, Bool.and_eq_false_iff, Bool.and_eq_true, decide_eq_true_eq, decide_eq_false_iff_not, bne_iff_ne, bne_eq_false_iff_eq, ne_eq]
    omega
theorem own_rows_base {w : World} {B B' : Nat} {v : Value} {xss : List (List Int)} (h : OwnRows w B v xss) (hb : B' ≤ B) : OwnRows w B' v xss := h.elim fun rows hl => ⟨rows, hl.base hb⟩
theorem rd_form {w : World} {g : Nat} {a0 a1 a2 a3 a4 a5 v0 v1 v2 v3 : Value} {T : TypeId} (h : w.heap[g]? = some (.cells #[a0, a1, a2, a3, a4, a5] T (0, 0))) :
    ((((w.setCell ⟨g, 0, none⟩ v0).setCell ⟨g, 1, none⟩ v1).setCell ⟨g, 2, none⟩ v2).setCell ⟨g, 3, none⟩ v3).heap[g]? = some (.cells #[v0, v1, v2, v3, a4, a5] T (0, 0)) := by
  have h0 := heap_setCell_same w g 0 _ T v0 h
  have h1 := heap_setCell_same _ g 1 _ T v1 h0
  have h2 := heap_setCell_same _ g 2 _ T v2 h1
  have h3 := heap_setCell_same _ g 3 _ T v3 h2
  exact h3
theorem own_rows_far {w : World} {B : Nat} {v : Value} {xss : List (List Int)} (h : OwnRows w B v xss) {g : Nat} {cs : Array Value} {t : TypeId} {fr : Nat × Nat} (hg : w.heap[g]? = some (.cells cs t fr)) (h1 : 40 ≠ t) (h2 : 3 ≠ t) (j : Nat) (u : Value) : OwnRows (w.setCell ⟨g, j, none⟩ u) B v xss :=
  h.elim fun rows hl => ⟨rows, hl.set_far hg h1 h2 j u⟩
theorem rd_form_own {w : World} {g B : Nat} {a0 a1 a2 a3 a4 a5 v0 v1 v2 v3 v : Value} {xss : List (List Int)} (h : w.heap[g]? = some (.cells #[a0, a1, a2, a3, a4, a5] 55 (0, 0))) (ho : OwnRows w B v xss) :
    OwnRows ((((w.setCell ⟨g, 0, none⟩ v0).setCell ⟨g, 1, none⟩ v1).setCell ⟨g, 2, none⟩ v2).setCell ⟨g, 3, none⟩ v3) B v xss := by
  have h0 := heap_setCell_same w g 0 _ 55 v0 h
  have h1 := heap_setCell_same _ g 1 _ 55 v1 h0
  have h2 := heap_setCell_same _ g 2 _ 55 v2 h1
  exact own_rows_far (own_rows_far (own_rows_far (own_rows_far ho h (by decide) (by decide) 0 v0) h0 (by decide) (by decide) 1 v1) h1 (by decide) (by decide) 2 v2) h2 (by decide) (by decide) 3 v3
theorem rd_form_below {w w' : World} {N g : Nat} {v0 v1 v2 v3 : Value} (h : Below N w w') (hg : N ≤ g) : Below N w ((((w'.setCell ⟨g, 0, none⟩ v0).setCell ⟨g, 1, none⟩ v1).setCell ⟨g, 2, none⟩ v2).setCell ⟨g, 3, none⟩ v3) :=
  (((h.setCell (p := ⟨g, 0, none⟩) hg v0).setCell (p := ⟨g, 1, none⟩) hg v1).setCell (p := ⟨g, 2, none⟩) hg v2).setCell (p := ⟨g, 3, none⟩) hg v3
theorem cells6 {w : World} {g : Nat} {a0 a1 a2 a3 a4 a5 : Value} {T : TypeId} (h : w.heap[g]? = some (.cells #[a0, a1, a2, a3, a4, a5] T (0, 0))) :
    (w.cell? ⟨g, 0, none⟩ = some a0 ∧ w.cell? ⟨g, 1, none⟩ = some a1 ∧ w.cell? ⟨g, 2, none⟩ = some a2 ∧ w.cell? ⟨g, 3, none⟩ = some a3 ∧ w.cell? ⟨g, 4, none⟩ = some a4 ∧ w.cell? ⟨g, 5, none⟩ = some a5) ∧
    (w.frozen? ⟨g, 0, none⟩ = false ∧ w.frozen? ⟨g, 1, none⟩ = false ∧ w.frozen? ⟨g, 2, none⟩ = false ∧ w.frozen? ⟨g, 3, none⟩ = false ∧ w.frozen? ⟨g, 4, none⟩ = false ∧ w.frozen? ⟨g, 5, none⟩ = false) := by
  refine ⟨⟨?_, ?_, ?_, ?_, ?_, ?_⟩, frozen_of_row w g 0 _ _ h, frozen_of_row w g 1 _ _ h, frozen_of_row w g 2 _ _ h, frozen_of_row w g 3 _ _ h, frozen_of_row w g 4 _ _ h, frozen_of_row w g 5 _ _ h⟩
  · rw [own_cell1 h 0]; rfl
  · rw [own_cell1 h 1]; rfl
  · rw [own_cell1 h 2]; rfl
  · rw [own_cell1 h 3]; rfl
  · rw [own_cell1 h 4]; rfl
  · rw [own_cell1 h 5]; rfl
set_option maxRecDepth 100000 in
set_option maxHeartbeats 4000000 in
theorem RTAKEF_long (N g : Nat) (A : Option Addr) (n c : Nat) (hn : n ≠ 12) (hn2 : n ≤ 9223372036854775807) (w : World) :
    Calls Tryd.prog 41 #[.pointer (some ⟨g, 0, none⟩), .slice A n c] w fun e w' => e = .returned (.bool false) ∧ w = w' := by
  have hq : ((n : Int) != 12) = true := by simp; omega
  go_enter Tryd.func41, Tryd.ntmps41
  go_wp2_with fail
  go_ret
  exact ⟨rfl, rfl⟩
set_option maxRecDepth 100000 in
set_option maxHeartbeats 4000000 in
theorem RTAKEF_ok (N g : Nat) (A : Option Addr) (n c : Nat) (d : By) (hlen : n = 12) (hc : n ≤ c ∧ c ≤ maxLen) (w : World) (hN : N ≤ w.heap.size) (hR : Hid (RdAt w N g .start)) (hD : Hid (BysAt w N A n d)) :
    Calls Tryd.prog 41 #[.pointer (some ⟨g, 0, none⟩), .slice A n c] w fun e w' => e = .returned (.bool (formOk d)) ∧ (formOk d = true → RdAt w' N g (.mid (nAt d 0 4) (nAt d 4 6) (nAt d 6 8) (nAt d 8 12) [])) ∧ Below N w w' := by
  subst hlen
  have hlen := hD.out.1
  have hl := Lib.hid hD.out.1
  have hl12 := Lib.hid hlen
  have HS4 : ∀ W, (Instr.slice 26 (.slice A 12 c) none (some (.int .i64 4)) none).run Tryd.prog W = .ok (.slice (cutA A c 0) 4 c) W := fun W => run_cut_to A 12 c 4 (by omega) W
  have HS6 : ∀ W, (Instr.slice 26 (.slice A 12 c) (some (.int .i64 4)) (some (.int .i64 6)) none).run Tryd.prog W = .ok (.slice (cutA A c 4) 2 (c - 4)) W := fun W => run_cut_by A 12 c 4 6 (by omega) (by omega) W
  have HS8 : ∀ W, (Instr.slice 26 (.slice A 12 c) (some (.int .i64 6)) (some (.int .i64 8)) none).run Tryd.prog W = .ok (.slice (cutA A c 6) 2 (c - 6)) W := fun W => run_cut_by A 12 c 6 8 (by omega) (by omega) W
  have HS9 : ∀ W, (Instr.slice 26 (.slice A 12 c) (some (.int .i64 8)) none none).run Tryd.prog W = .ok (.slice (cutA A c 8) 4 (c - 8)) W := fun W => run_cut_from A 12 c 8 (by omega) (by omega) W
  have HG4 := Lib.hid (hD.out.cut hc.1 (p := 0) (q := 4) (by omega) (by omega))
  have HG6 := Lib.hid (hD.out.cut hc.1 (p := 4) (q := 6) (by omega) (by omega))
  have HG8 := Lib.hid (hD.out.cut hc.1 (p := 6) (q := 8) (by omega) (by omega))
  have HG9 := Lib.hid (hD.out.cut hc.1 (p := 8) (q := 12) (by omega) (by omega))
  have c4 := numB_lt (cutB d 0 4)
  have c6 := numB_lt (cutB d 4 6)
  have c8 := numB_lt (cutB d 6 8)
  have c9 := numB_lt (cutB d 8 12)
  rw [cutB_length (by omega) (by omega)] at c4 c6 c8 c9
  simp only [Nat.reduceSub, Nat.reducePow] at c4 c6 c8 c9
  simp only [Nat.reduceSub] at HG4 HG6 HG8 HG9
  obtain ⟨v4, hv4⟩ : ∃ v, numB (cutB d 0 4) = v := ⟨_, rfl⟩
  obtain ⟨v6, hv6⟩ : ∃ v, numB (cutB d 4 6) = v := ⟨_, rfl⟩
  obtain ⟨v8, hv8⟩ : ∃ v, numB (cutB d 6 8) = v := ⟨_, rfl⟩
  obtain ⟨v9, hv9⟩ : ∃ v, numB (cutB d 8 12) = v := ⟨_, rfl⟩
  rw [hv4] at c4
  rw [hv6] at c6
  rw [hv8] at c8
  rw [hv9] at c9
  have HV4 := Lib.hid hv4
  have HV6 := Lib.hid hv6
  have HV8 := Lib.hid hv8
  have HV9 := Lib.hid hv9
  clear hv4 hv6 hv8 hv9
  go_enter Tryd.func41, Tryd.ntmps41
  go_wp2_with fail
  have HC4 : Hid (∀ k, Calls Tryd.prog 46 #[.slice (cutA A c 0) 4 c] (w.drewN k) fun e w' => e = .returned (.int .i64 ((v4 : Nat) : Int)) ∧ ∃ m, w' = (w.drewN k).drewN m) := fun k => by
    have h := GET_any (cutA A c 0) 4 c (cutB d 0 4) (by omega) (w.drewN k) N (Nat.le_trans hN (belowN (Below.refl N w) k).size) (HG4.out.below (belowN (Below.refl _ _) _) (Nat.le_refl _))
    rw [HV4.out] at h
    exact h.mono fun e w9 h => ⟨h.1, 0, h.2.symm⟩
  have HC6 : Hid (∀ k, Calls Tryd.prog 46 #[.slice (cutA A c 4) 2 (c - 4)] (w.drewN k) fun e w' => e = .returned (.int .i64 ((v6 : Nat) : Int)) ∧ ∃ m, w' = (w.drewN k).drewN m) := fun k => by
    have h := GET_any (cutA A c 4) 2 (c - 4) (cutB d 4 6) (by omega) (w.drewN k) N (Nat.le_trans hN (belowN (Below.refl N w) k).size) (HG6.out.below (belowN (Below.refl _ _) _) (Nat.le_refl _))
    rw [HV6.out] at h
    exact h.mono fun e w9 h => ⟨h.1, 0, h.2.symm⟩
  have HC8 : Hid (∀ k, Calls Tryd.prog 46 #[.slice (cutA A c 6) 2 (c - 6)] (w.drewN k) fun e w' => e = .returned (.int .i64 ((v8 : Nat) : Int)) ∧ ∃ m, w' = (w.drewN k).drewN m) := fun k => by
    have h := GET_any (cutA A c 6) 2 (c - 6) (cutB d 6 8) (by omega) (w.drewN k) N (Nat.le_trans hN (belowN (Below.refl N w) k).size) (HG8.out.below (belowN (Below.refl _ _) _) (Nat.le_refl _))
    rw [HV8.out] at h
    exact h.mono fun e w9 h => ⟨h.1, 0, h.2.symm⟩
  have HC9 : Hid (∀ k, Calls Tryd.prog 46 #[.slice (cutA A c 8) 4 (c - 8)] (w.drewN k) fun e w' => e = .returned (.int .i64 ((v9 : Nat) : Int)) ∧ ∃ m, w' = (w.drewN k).drewN m) := fun k => by
    have h := GET_any (cutA A c 8) 4 (c - 8) (cutB d 8 12) (by omega) (w.drewN k) N (Nat.le_trans hN (belowN (Below.refl N w) k).size) (HG9.out.below (belowN (Below.refl _ _) _) (Nat.le_refl _))
    rw [HV9.out] at h
    exact h.mono fun e w9 h => ⟨h.1, 0, h.2.symm⟩
  go_quiet ((first
    | (go_at_call 46; with_reducible exact Calls.quiet_of (HC4.out _))
    | (go_at_call 46; with_reducible exact Calls.quiet_of (HC6.out _))
    | (go_at_call 46; with_reducible exact Calls.quiet_of (HC8.out _))
    | (go_at_call 46; with_reducible exact Calls.quiet_of (HC9.out _))))
  clear HC4 HC6 HC8 HC9 HS4 HS6 HS8 HS9 HG4 HG6 HG8 HG9 hlen
  have HF : Hid (formOk d = formG v4 v6 v8 v9) := by
    show _ = _
    unfold formOk nAt
    rw [HV4.out, HV6.out, HV8.out, HV9.out, hl.out]
    rfl
  have HBW : Hid (Below N w (w.drewN nq)) := belowN (Below.refl _ _) nq
  obtain ⟨W, hW⟩ : ∃ W, W = w.drewN nq := ⟨_, rfl⟩
  rw [← hW] at HBW ⊢
  have HRW : Hid (W.heap[g]? = some (.cells #[.int .i64 0, .slice none 0 0, .int .i64 0, .int .i64 0, .slice none 0 0, .bool false] 55 (0, 0))) := by
    rw [hW]; exact hR.out.2
  have hNg := hR.out.1
  clear hW
  rcases form_cases v4 v6 v8 v9 with ⟨hG, hr⟩ | ⟨hG, hr, d1⟩ | ⟨hG, hr, d1, d2⟩ | ⟨hG, hr, d1, d2, b1, b2⟩ | ⟨hG, hr, d1, d2, b1, d4⟩ | ⟨hG, hr, d1, d2, b1, b2, d4⟩ | ⟨hG, hr, d1, d2, b1, d4⟩ | ⟨hG, hr, d1, d2, b1, b2, d4⟩
  · skip
    have HR := Lib.hid hr
    have HG := Lib.hid hG
    clear hr hG
    go_wp2_with (go_at_call 34; refine (ISRATE_eq _ _ HR _).mono ?_; rintro e w2 ⟨rfl, rfl⟩)
    go_ret
    rw [HF.out, HG.out]
    exact ⟨rfl, (fun h => by cases h), HBW.out⟩
  · skip
    have HR := Lib.hid hr
    have HG := Lib.hid hG
    clear hr hG
    go_wp2_with (go_at_call 34; refine (ISRATE_eq _ _ HR _).mono ?_; rintro e w2 ⟨rfl, rfl⟩)
    go_ret
    rw [HF.out, HG.out]
    exact ⟨rfl, (fun h => by cases h), HBW.out⟩
  · skip
    have HR := Lib.hid hr
    have HG := Lib.hid hG
    clear hr hG
    go_wp2_with (go_at_call 34; refine (ISRATE_eq _ _ HR _).mono ?_; rintro e w2 ⟨rfl, rfl⟩)
    go_ret
    rw [HF.out, HG.out]
    exact ⟨rfl, (fun h => by cases h), HBW.out⟩
  · skip
    have HR := Lib.hid hr
    have HG := Lib.hid hG
    clear hr hG
    go_wp2_with (go_at_call 34; refine (ISRATE_eq _ _ HR _).mono ?_; rintro e w2 ⟨rfl, rfl⟩)
    go_ret
    rw [HF.out, HG.out]
    exact ⟨rfl, (fun h => by cases h), HBW.out⟩
  · skip
    have HR := Lib.hid hr
    have HG := Lib.hid hG
    clear hr hG
    go_wp2_with (go_at_call 34; refine (ISRATE_eq _ _ HR _).mono ?_; rintro e w2 ⟨rfl, rfl⟩)
    go_ret
    rw [HF.out, HG.out]
    exact ⟨rfl, (fun h => by cases h), HBW.out⟩
  · skip
    have HR := Lib.hid hr
    have HG := Lib.hid hG
    clear hr hG
    go_wp2_with (go_at_call 34; refine (ISRATE_eq _ _ HR _).mono ?_; rintro e w2 ⟨rfl, rfl⟩)
    go_ret
    rw [HF.out, HG.out]
    exact ⟨rfl, (fun h => by cases h), HBW.out⟩
  · skip
    have HR := Lib.hid hr
    have HG := Lib.hid hG
    obtain ⟨_, hT1, hT2, _, hm⟩ := formG_in hG
    clear hr hG
    have hsW := HBW.out.size
    go_wp2_with (go_at_call 34; refine (ISRATE_eq _ _ HR _).mono ?_; rintro e w2 ⟨rfl, rfl⟩)
    refine (BLANK_any v4 v6 v9 (by omega) (by omega) _).mono ?_
    rintro e w3 ⟨v, rfl, ho, hb3⟩
    have HO := Lib.hid (own_rows_base ho (Nat.le_trans hN hsW))
    have HH3 := Lib.hid ((hb3.block g (blk_lt HRW.out)).trans HRW.out)
    have HB3 := Lib.hid (HBW.out.trans (hb3.mono (Nat.le_trans hN hsW)))
    obtain ⟨⟨x0, x1, x2, x3, _, _⟩, f0, f1, f2, f3, _, _⟩ := cells6 HH3.out
    obtain ⟨A5, c5, rfl, _, _⟩ := ho.form
    clear ho hb3 HBW HRW
    go_wp2_with fail
    go_ret
    rw [HF.out, HG.out]
    refine ⟨rfl, fun _ => ?_, rd_form_below HB3.out hNg⟩
    unfold nAt
    rw [HV4.out, HV6.out, HV8.out, HV9.out]
    exact ⟨_, .slice none 0 0, hNg, rd_form HH3.out, rd_form_own HH3.out HO.out, OwnNts.nil _ _⟩
  · skip
    have HR := Lib.hid hr
    have HG := Lib.hid hG
    obtain ⟨_, hT1, hT2, _, hm⟩ := formG_in hG
    clear hr hG
    have hsW := HBW.out.size
    go_wp2_with (go_at_call 34; refine (ISRATE_eq _ _ HR _).mono ?_; rintro e w2 ⟨rfl, rfl⟩)
    refine (BLANK_any v4 v6 v9 (by omega) (by omega) _).mono ?_
    rintro e w3 ⟨v, rfl, ho, hb3⟩
    have HO := Lib.hid (own_rows_base ho (Nat.le_trans hN hsW))
    have HH3 := Lib.hid ((hb3.block g (blk_lt HRW.out)).trans HRW.out)
    have HB3 := Lib.hid (HBW.out.trans (hb3.mono (Nat.le_trans hN hsW)))
    obtain ⟨⟨x0, x1, x2, x3, _, _⟩, f0, f1, f2, f3, _, _⟩ := cells6 HH3.out
    obtain ⟨A5, c5, rfl, _, _⟩ := ho.form
    clear ho hb3 HBW HRW
    go_wp2_with fail
    go_ret
    rw [HF.out, HG.out]
    refine ⟨rfl, fun _ => ?_, rd_form_below HB3.out hNg⟩
    unfold nAt
    rw [HV4.out, HV6.out, HV8.out, HV9.out]
    exact ⟨_, .slice none 0 0, hNg, rd_form HH3.out, rd_form_own HH3.out HO.out, OwnNts.nil _ _⟩
end Go.Proofs.YtlnjildkdmeflaaDoor
