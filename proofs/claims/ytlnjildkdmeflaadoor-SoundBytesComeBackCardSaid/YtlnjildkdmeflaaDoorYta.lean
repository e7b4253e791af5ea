/- take: what is no note. -/
import Derived.Test.YtlnjildkdmeflaaDoorYtd
set_option linter.unusedSimpArgs false
set_option linter.unusedVariables false
namespace Go.Proofs.YtlnjildkdmeflaaDoor
open Go.RowKit Go.Dw
theorem ck_eq {s : ByteArray} {l : By} (h : s.data.toList = l) : (s.toList == l) = true := by
  rw [ByteArray.toList_eq, h]; simp
theorem ck_ne {s : ByteArray} {l : By} (h : s.data.toList ≠ l) : (s.toList == l) = false := by
  rw [ByteArray.toList_eq]; simpa using h
/-- the reading's flag -/
def Rd.dn : Rd → Bool
  | .fin .. => true
  | _ => false
theorem rd_cells {w : World} {N g : Nat} {st : Rd} (h : RdAt w N g st) : N ≤ g ∧ ∃ r v b m u, w.heap[g]? = some (.cells #[.int .i64 r, v, .int .i64 b, .int .i64 m, u, .bool st.dn] 55 (0, 0)) := by
  cases st with
  | start => exact ⟨h.1, 0, _, 0, 0, _, h.2⟩
  | mid r T b m l =>
    obtain ⟨v, u, h1, h2, _⟩ := h
    exact ⟨h1, r, v, b, m, u, h2⟩
  | fin r b m xss l =>
    obtain ⟨v, u, h1, h2, _⟩ := h
    exact ⟨h1, r, v, b, m, u, h2⟩
set_option maxRecDepth 100000 in
set_option maxHeartbeats 2000000 in
theorem RTAKE_fin (N g : Nat) (r b : Int) (m : Nat) (xss : List (List Int)) (l : List Nx) (s : ByteArray) (A : Option Addr) (n c : Nat) (w : World) (hN : N ≤ w.heap.size) (b' : Nat) (hR : Hid (RdAt w N g (.fin r b' m xss l))) :
    Calls Tryd.prog 26 #[.pointer (some ⟨g, 0, none⟩), .agg #[.string s, .slice A n c]] w fun e w' => e = .returned (.bool false) ∧ Below N w w' := by
  have hNg := (rd_cells hR.out).1
  have hgw : g < w.heap.size := by
    obtain ⟨_, r, v, b, m, u, h⟩ := rd_cells hR.out
    exact blk_lt h
  obtain ⟨W, gx, hW, hgx, HHW, HB⟩ : ∃ W gx, W = w.alloc (.cells #[.string s, .slice A n c] 42) ∧ gx = w.heap.size ∧ Hid (W.heap[gx]? = some (.cells #[.string s, .slice A n c] 42 (0, 0))) ∧ Hid (Below w.heap.size w W) := ⟨_, _, rfl, rfl, heap_alloc_new _ _, (Below.refl _ _).alloc (Nat.le_refl _) _⟩
  have HGX := Lib.hid hgx
  have hsW := HB.out.size
  go_enter Tryd.func26, Tryd.ntmps26
  go_upto_region 1 with (fail)
  rw [← hW, ← hgx]
  clear hW hgx
  obtain ⟨c0, c1, _, _⟩ := cells2 HHW.out
  obtain ⟨_, r9, v9, b9, m9, u9, hbx⟩ := rd_cells hR.out
  obtain ⟨⟨_, _, _, _, _, x5⟩, _⟩ := cells6 ((HB.out.block g hgw).trans hbx)
  have x5' : W.cell? ⟨g, 5, none⟩ = some (.bool true) := x5
  clear hbx
  go_wp2_with fail
  go_ret
  exact ⟨rfl, HB.out.mono hN⟩
set_option maxRecDepth 100000 in
set_option maxHeartbeats 4000000 in
theorem RTAKE_start (N g : Nat) (d : By) (s : ByteArray) (A : Option Addr) (n c : Nat) (hc : n ≤ c ∧ c ≤ maxLen) (w : World) (hN : N ≤ w.heap.size) (hR : Hid (RdAt w N g .start)) (hD : Hid (BysAt w N A n d)) :
    Calls Tryd.prog 26 #[.pointer (some ⟨g, 0, none⟩), .agg #[.string s, .slice A n c]] w fun e w' => e = .returned (.bool (stepS .start (s.data.toList, d)).isSome) ∧ (∀ st', stepS .start (s.data.toList, d) = some st' → RdAt w' N g st') ∧ Below N w w' := by
  by_cases hq : s.data.toList = [102, 111, 114, 109]
  · have e1 := ck_eq hq
    have HQ := Lib.hid hq
    clear hq
    have hNg := (rd_cells hR.out).1
    have hgw : g < w.heap.size := by
      obtain ⟨_, r, v, b, m, u, h⟩ := rd_cells hR.out
      exact blk_lt h
    obtain ⟨W, gx, hW, hgx, HHW, HB⟩ : ∃ W gx, W = w.alloc (.cells #[.string s, .slice A n c] 42) ∧ gx = w.heap.size ∧ Hid (W.heap[gx]? = some (.cells #[.string s, .slice A n c] 42 (0, 0))) ∧ Hid (Below w.heap.size w W) := ⟨_, _, rfl, rfl, heap_alloc_new _ _, (Below.refl _ _).alloc (Nat.le_refl _) _⟩
    have HGX := Lib.hid hgx
    have hsW := HB.out.size
    go_enter Tryd.func26, Tryd.ntmps26
    go_upto_region 1 with (fail)
    rw [← hW, ← hgx]
    clear hW hgx
    obtain ⟨c0, c1, _, _⟩ := cells2 HHW.out
    have HRW : Hid (RdAt W N g .start) := ⟨hNg, (HB.out.block g hgw).trans hR.out.2⟩
    obtain ⟨⟨_, _, x2, _, _, x5⟩, _⟩ := cells6 HRW.out.2
    have HDW := Lib.hid (hD.out.below HB.out hN)
    go_wp2_with fail
    by_cases hn : n = 12
    · refine (RTAKEF_ok N g A n c d hn hc _ (Nat.le_trans hN hsW) HRW HDW).mono ?_
      rintro e w2 ⟨rfl, h2, hb2⟩
      have H2 := Lib.hid h2
      have HB2 := Lib.hid ((HB.out.mono hN).trans hb2)
      clear h2 hb2
      go_wp2_with fail
      go_ret
      rw [stepS_start]
      cases hf : formOk d with
      | true =>
        rw [if_pos ⟨HQ.out, rfl⟩]
        refine ⟨rfl, fun st' h => ?_, HB2.out⟩
        injection h with h
        subst h
        exact H2.out hf
      | false =>
        rw [if_neg (fun h => by cases h.2)]
        exact ⟨rfl, (fun st' h => by cases h), HB2.out⟩
    · have hle := hc.2
      unfold maxLen at hle
      refine (RTAKEF_long N g A n c hn (by omega) _).mono ?_
      rintro e w2 ⟨rfl, rfl⟩
      go_wp2_with fail
      go_ret
      have hf : formOk d = false := by
        unfold formOk
        rw [hD.out.1, decide_eq_false hn]
        rfl
      rw [stepS_start, if_neg (fun h => by rw [hf] at h; cases h.2)]
      exact ⟨rfl, (fun st' h => by cases h), HB.out.mono hN⟩
  · have e1 := ck_ne hq
    have HQ := Lib.hid hq
    clear hq
    have hNg := (rd_cells hR.out).1
    have hgw : g < w.heap.size := by
      obtain ⟨_, r, v, b, m, u, h⟩ := rd_cells hR.out
      exact blk_lt h
    obtain ⟨W, gx, hW, hgx, HHW, HB⟩ : ∃ W gx, W = w.alloc (.cells #[.string s, .slice A n c] 42) ∧ gx = w.heap.size ∧ Hid (W.heap[gx]? = some (.cells #[.string s, .slice A n c] 42 (0, 0))) ∧ Hid (Below w.heap.size w W) := ⟨_, _, rfl, rfl, heap_alloc_new _ _, (Below.refl _ _).alloc (Nat.le_refl _) _⟩
    have HGX := Lib.hid hgx
    have hsW := HB.out.size
    go_enter Tryd.func26, Tryd.ntmps26
    go_upto_region 1 with (fail)
    rw [← hW, ← hgx]
    clear hW hgx
    obtain ⟨c0, c1, _, _⟩ := cells2 HHW.out
    have HRW : Hid (RdAt W N g .start) := ⟨hNg, (HB.out.block g hgw).trans hR.out.2⟩
    obtain ⟨⟨_, _, x2, _, _, x5⟩, _⟩ := cells6 HRW.out.2
    by_cases hq2 : s.data.toList = [110, 111, 116, 101]
    · have e2 := ck_eq hq2
      have e3 := ck_ne (s := s) (l := [100, 97, 116, 97]) (by rw [hq2]; decide)
      clear hq2
      go_wp2_with fail
      go_ret
      rw [stepS_start, if_neg (fun h => HQ.out h.1)]
      exact ⟨rfl, (fun st' h => by cases h), HB.out.mono hN⟩
    · have e2 := ck_ne hq2
      clear hq2
      by_cases hq3 : s.data.toList = [100, 97, 116, 97]
      · have e3 := ck_eq hq3
        clear hq3
        go_wp2_with fail
        go_ret
        rw [stepS_start, if_neg (fun h => HQ.out h.1)]
        exact ⟨rfl, (fun st' h => by cases h), HB.out.mono hN⟩
      · have e3 := ck_ne hq3
        clear hq3
        go_wp2_with fail
        go_ret
        rw [stepS_start, if_neg (fun h => HQ.out h.1)]
        exact ⟨rfl, (fun st' h => by cases h), HB.out.mono hN⟩
theorem rd_mid_keep {w w' : World} {N g : Nat} {r : Int} {T b m : Nat} {l : List Nx} (h : RdAt w N g (.mid r T b m l)) (hb : Below w.heap.size w w') : RdAt w' N g (.mid r T b m l) := by
  obtain ⟨v, u, h1, h2, h3, h4⟩ := h
  refine ⟨v, u, h1, (hb.block g (blk_lt h2)).trans h2, ?_, OwnNts.below h4 hb⟩
  obtain ⟨rows, hL⟩ := h3
  exact ⟨rows, hL.below hb⟩
set_option maxRecDepth 100000 in
set_option maxHeartbeats 4000000 in
theorem RTAKE_other (N g : Nat) (r : Int) (T b m : Nat) (l : List Nx) (d : By) (s : ByteArray) (A : Option Addr) (n c : Nat) (w : World) (hN : N ≤ w.heap.size) (hb0 : 0 < b) (hb9 : b ≤ 1000) (hR : Hid (RdAt w N g (.mid r T b m l)))
    (hq2 : s.data.toList ≠ [110, 111, 116, 101]) (hq3 : s.data.toList ≠ [100, 97, 116, 97]) :
    Calls Tryd.prog 26 #[.pointer (some ⟨g, 0, none⟩), .agg #[.string s, .slice A n c]] w fun e w' => e = .returned (.bool (stepS (.mid r T b m l) (s.data.toList, d)).isSome) ∧ (∀ st', stepS (.mid r T b m l) (s.data.toList, d) = some st' → RdAt w' N g st') ∧ Below N w w' := by
  have HS : Hid (stepS (.mid r T b m l) (s.data.toList, d) = none) := by show _ = _; rw [stepS_mid, if_neg hq2, if_neg (fun h => hq3 h.1)]
  have e2 := ck_ne hq2
  have e3 := ck_ne hq3
  clear hq2 hq3
  have hbi : (0 : Int) < (b : Int) := by omega
  have hbn : ((b : Int) == 0) = false := by simp; omega
  have hNg := (rd_cells hR.out).1
  have hgw : g < w.heap.size := by
    obtain ⟨_, r, v, b, m, u, h⟩ := rd_cells hR.out
    exact blk_lt h
  obtain ⟨W, gx, hW, hgx, HHW, HB⟩ : ∃ W gx, W = w.alloc (.cells #[.string s, .slice A n c] 42) ∧ gx = w.heap.size ∧ Hid (W.heap[gx]? = some (.cells #[.string s, .slice A n c] 42 (0, 0))) ∧ Hid (Below w.heap.size w W) := ⟨_, _, rfl, rfl, heap_alloc_new _ _, (Below.refl _ _).alloc (Nat.le_refl _) _⟩
  have HGX := Lib.hid hgx
  have hsW := HB.out.size
  go_enter Tryd.func26, Tryd.ntmps26
  go_upto_region 1 with (fail)
  rw [← hW, ← hgx]
  clear hW hgx
  obtain ⟨c0, c1, _, _⟩ := cells2 HHW.out
  obtain ⟨v, u, _, hbx, _, _⟩ := (rd_mid_keep hR.out HB.out)
  obtain ⟨⟨_, _, x2, _, _, x5⟩, _⟩ := cells6 hbx
  clear hbx
  by_cases hq : s.data.toList = [102, 111, 114, 109]
  · have e1 := ck_eq hq
    clear hq
    go_wp2_with fail
    go_ret
    rw [HS.out]
    exact ⟨rfl, (fun st' h => by cases h), HB.out.mono hN⟩
  · have e1 := ck_ne hq
    clear hq
    go_wp2_with fail
    go_ret
    rw [HS.out]
    exact ⟨rfl, (fun st' h => by cases h), HB.out.mono hN⟩
set_option maxRecDepth 100000 in
set_option maxHeartbeats 4000000 in
theorem RTAKE_data (N g : Nat) (r : Int) (T b m : Nat) (l : List Nx) (d : By) (s : ByteArray) (A : Option Addr) (n c : Nat) (hc : n ≤ c ∧ c ≤ maxLen) (w : World) (hN : N ≤ w.heap.size) (hG : Hid (formG r T b m = true)) (hR : Hid (RdAt w N g (.mid r T b m l))) (hD : Hid (BysAt w N A n d))
    (hq3 : s.data.toList = [100, 97, 116, 97]) :
    Calls Tryd.prog 26 #[.pointer (some ⟨g, 0, none⟩), .agg #[.string s, .slice A n c]] w fun e w' => e = .returned (.bool (stepS (.mid r T b m l) (s.data.toList, d)).isSome) ∧ (∀ st', stepS (.mid r T b m l) (s.data.toList, d) = some st' → RdAt w' N g st') ∧ Below N w w' := by
  have HS : Hid (stepS (.mid r T b m l) (s.data.toList, d) = if d.length = b / 8 * T * m then some (.fin r b m (fillR b T m d) l) else none) := by
    show _ = _
    rw [stepS_mid, if_neg (show ¬ s.data.toList = [110, 111, 116, 101] by rw [hq3]; decide)]
    by_cases hd : d.length = b / 8 * T * m
    · rw [if_pos ⟨hq3, hd⟩, if_pos hd]
    · rw [if_neg (fun h => hd h.2), if_neg hd]
  obtain ⟨_, hT1, hT2, hb3, hm⟩ := formG_in hG.out
  have e1 := ck_ne (s := s) (l := [102, 111, 114, 109]) (by rw [hq3]; decide)
  have e2 := ck_ne (s := s) (l := [110, 111, 116, 101]) (by rw [hq3]; decide)
  have e3 := ck_eq hq3
  have hbi : (0 : Int) < (b : Int) := by omega
  have hbn : ((b : Int) == 0) = false := by simp; omega
  clear hq3
  have hNg := (rd_cells hR.out).1
  have hgw : g < w.heap.size := by
    obtain ⟨_, r, v, b, m, u, h⟩ := rd_cells hR.out
    exact blk_lt h
  obtain ⟨W, gx, hW, hgx, HHW, HB⟩ : ∃ W gx, W = w.alloc (.cells #[.string s, .slice A n c] 42) ∧ gx = w.heap.size ∧ Hid (W.heap[gx]? = some (.cells #[.string s, .slice A n c] 42 (0, 0))) ∧ Hid (Below w.heap.size w W) := ⟨_, _, rfl, rfl, heap_alloc_new _ _, (Below.refl _ _).alloc (Nat.le_refl _) _⟩
  have HGX := Lib.hid hgx
  have hsW := HB.out.size
  go_enter Tryd.func26, Tryd.ntmps26
  go_upto_region 1 with (fail)
  rw [← hW, ← hgx]
  clear hW hgx
  obtain ⟨c0, c1, _, _⟩ := cells2 HHW.out
  have HRW := Lib.hid (rd_mid_keep hR.out HB.out)
  have HDW := Lib.hid (hD.out.below HB.out hN)
  obtain ⟨⟨_, _, x2, _, _, x5⟩, _⟩ : (W.cell? ⟨g, 0, none⟩ = W.cell? ⟨g, 0, none⟩ ∧ True ∧ W.cell? ⟨g, 2, none⟩ = some (.int .i64 b) ∧ True ∧ True ∧ W.cell? ⟨g, 5, none⟩ = some (.bool false)) ∧ True := by
    obtain ⟨v, u, _, hbx, _, _⟩ := HRW.out
    obtain ⟨⟨_, _, x2, _, _, x5⟩, _⟩ := cells6 hbx
    exact ⟨⟨rfl, trivial, x2, trivial, trivial, x5⟩, trivial⟩
  have HCALL : Hid (Calls Tryd.prog 42 #[.pointer (some ⟨g, 0, none⟩), .slice A n c] W fun e w' => e = .returned (.bool (decide (d.length = b / 8 * T * m))) ∧ (d.length = b / 8 * T * m → RdAt w' N g (.fin r b m (fillR b T m d) l)) ∧ Below N W w') := by
    rcases hb3 with rfl | rfl
    · exact RTAKED_16 N g r T m l A n c d W (Nat.le_trans hN hsW) HRW hT1 hT2 hm hc HDW
    · exact RTAKED_24 N g r T m l A n c d W (Nat.le_trans hN hsW) HRW hT1 hT2 hm hc HDW
  go_wp2_with fail
  refine HCALL.out.mono ?_
  rintro e w2 ⟨rfl, h2, hb2⟩
  have H2 := Lib.hid h2
  have HB2 := Lib.hid ((HB.out.mono hN).trans hb2)
  clear h2 hb2
  go_wp2_with fail
  go_ret
  rw [HS.out]
  by_cases hd : d.length = b / 8 * T * m
  · rw [if_pos hd, decide_eq_true hd]
    refine ⟨rfl, fun st' h => ?_, HB2.out⟩
    injection h with h
    subst h
    exact H2.out hd
  · rw [if_neg hd, decide_eq_false hd]
    exact ⟨rfl, (fun st' h => by cases h), HB2.out⟩
end Go.Proofs.YtlnjildkdmeflaaDoor
