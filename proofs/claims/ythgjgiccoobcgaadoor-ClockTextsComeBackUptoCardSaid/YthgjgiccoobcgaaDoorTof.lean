/- clock.TickOf. -/
import Derived.Test.YthgjgiccoobcgaaDoorBof
import Derived.Test.YthgjgiccoobcgaaDoorShelf
import Derived.Deep.CutBlock
import Derived.Deep.CutRange
set_option linter.unusedSimpArgs false
set_option linter.unusedVariables false
namespace Go.Proofs.YthgjgiccoobcgaaDoor
open Go.RowKit Go.Dw Go.Joins
/-- a text in its parts -/
def Parts (s : ByteArray) (P : List ByteArray) : Prop := P.length = Lib.count s.data.toList [46] + 1 ∧ P.map (·.data.toList) = Lib.splitK [46] 0 (Lib.count s.data.toList [46]) s.data.toList
theorem SPLIT_any (s : ByteArray) (m : Int) (hs : s.size ≤ 1048576) (w : World) (hm : Hid (w.cell? ⟨3, 0, none⟩ = some (.int .i64 m))) :
    Calls Tryd.prog 25 #[.string s, .string ⟨#[46]⟩] w fun e w' => ∃ (g k : Nat) (P : List ByteArray), e = .returned (.slice (some ⟨g, 0, none⟩) k k) ∧ P.length = k ∧ Hid (Parts s P) ∧ Hid (w'.heap[g]? = some (.cells (P.map Value.string).toArray 9 (0, 0))) ∧ Hid (Below w.heap.size w w') := by
  refine (Tryd.strings_Split s ⟨#[46]⟩ m w (by omega) hm.out (by decide)).mono ?_
  rintro e w' ⟨rfl, rfl⟩
  have hl := Lib.splitB_all ⟨#[46]⟩ (by decide) 0 (Lib.countB s ⟨#[46]⟩) s rfl
  exact ⟨_, _, _, rfl, hl, ⟨hl, Lib.splitB_data _ _ _ _⟩, heap_alloc_new _ _, (Below.refl _ _).alloc (Nat.le_refl _) _⟩
theorem parts3 {s : ByteArray} {P : List ByteArray} (h : Parts s P) (h3 : P.length = 3) : ∃ p0 p1 p2, P = [p0, p1, p2] ∧ Lib.count s.data.toList [46] = 2 ∧ Lib.splitK [46] 0 2 s.data.toList = [p0.data.toList, p1.data.toList, p2.data.toList] := by
  obtain ⟨h1, h2⟩ := h
  have hc : Lib.count s.data.toList [46] = 2 := by omega
  rw [hc] at h2
  match P, h3 with
  | [p0, p1, p2], _ => exact ⟨p0, p1, p2, rfl, hc, h2.symm⟩
theorem parts_not3 {s : ByteArray} {P : List ByteArray} (h : Parts s P) (h3 : P.length ≠ 3) {ms : List Pr} (hm : MetOk ms) : TickP ms s.data.toList (0, 10) := by
  refine .inr ⟨rfl, fun t h0 h1 e => ?_⟩
  have := (bar_parts hm h0 h1 e).1
  have := h.1
  omega
/-- three cells -/
theorem tri_cells {w : World} {g : Nat} {v0 v1 v2 : Value} {T : TypeId} (h : w.heap[g]? = some (.cells #[v0, v1, v2] T (0, 0))) : w.cell? ⟨g, 0, none⟩ = some v0 ∧ w.cell? ⟨g, 1, none⟩ = some v1 ∧ w.cell? ⟨g, 2, none⟩ = some v2 ∧ w.frozen? ⟨g, 0, none⟩ = false ∧ w.frozen? ⟨g, 1, none⟩ = false ∧ w.frozen? ⟨g, 2, none⟩ = false := by
  have h0 := own_cell1 h 0
  have h1 := own_cell1 h 1
  have h2 := own_cell1 h 2
  simp only [List.getElem?_toArray, List.getElem?_cons_zero, List.getElem?_cons_succ] at h0 h1 h2
  exact ⟨h0, h1, h2, frozen_of_row w g 0 _ _ h, frozen_of_row w g 1 _ _ h, frozen_of_row w g 2 _ _ h⟩
theorem tri_set {w : World} {g j : Nat} {v0 v1 v2 v : Value} {T : TypeId} (h : w.heap[g]? = some (.cells #[v0, v1, v2] T (0, 0))) : (w.setCell ⟨g, j, none⟩ v).heap[g]? = some (.cells (#[v0, v1, v2].setIfInBounds j v) T (0, 0)) := by
  simp only [World.setCell, Array.getElem?_modify, h]
  simp
theorem good_size {p : ByteArray} (h : GoodD p.data.toList) : 0 < p.size := by
  rw [← len_data]
  rcases h.2 with e | ⟨c, r, e, _⟩ <;> rw [e] <;> simp
/-- eleven digits at most -/
theorem decV_lt : ∀ (n : Nat) (l : List UInt8), l.length ≤ n → AllDig l → decV l < 10 ^ n
  | 0, l, hl, _ => by
    have : l = [] := List.eq_nil_of_length_eq_zero (by omega)
    subst this; simp [decV]
  | n + 1, l, hl, hd => by
    rcases List.eq_nil_or_concat l with rfl | ⟨i, z, rfl⟩
    · simp [decV]; exact Nat.pow_pos (by omega)
    · rw [List.concat_eq_append] at *
      have ih := decV_lt n i (by simp at hl; omega) (fun c hc => hd c (List.mem_append_left _ hc))
      have hz := hd z (by simp)
      rw [decV_snoc, Nat.pow_succ]
      omega
/-- what TickOf leaves -/
def TickOut (l ms : List Pr) (txt : List UInt8) (w : World) (e : Ending) (w' : World) : Prop := ∃ z : Int × Int, e = .returned (.tuple #[.int .i64 z.1, .int .i64 z.2]) ∧ TickS l ms txt z ∧ Below w.heap.size w w'
theorem split_le : ∀ (k : Nat) (l : List UInt8), ∀ p ∈ Lib.splitK [46] 0 k l, p.length ≤ l.length
  | 0, l, p, h => by simp [Lib.splitK] at h; subst h; exact Nat.le_refl _
  | k + 1, l, p, h => by
    unfold Lib.splitK at h
    split at h
    · simp at h; subst h; exact Nat.le_refl _
    · rw [List.mem_cons] at h
      rcases h with rfl | h
      · rw [List.length_take]; omega
      · have := split_le k _ p h
        rw [List.length_drop] at this; omega
theorem posC_step {ms : List Pr} {b E : Int} {k : Nat} (hE : (if k + 1 < ms.length then min b (prOf ms (k + 1)).1 else b) = E) (h : ¬ E ≤ (prOf ms k).1) : posC ms b (k + 1) = posC ms b k + (E - (prOf ms k).1) * (prOf ms k).2 * 960 := by
  show posC ms b k + (if (if k + 1 < ms.length then min b (prOf ms (k + 1)).1 else b) ≤ (prOf ms k).1 then 0 else ((if k + 1 < ms.length then min b (prOf ms (k + 1)).1 else b) - (prOf ms k).1) * (prOf ms k).2 * 960) = _
  rw [hE, if_neg h]
set_option maxRecDepth 100000 in
set_option maxHeartbeats 8000000 in
theorem TICKOF_any (A A' : Option Addr) (n c n' c' : Nat) (l ms : List Pr) (s : ByteArray) (m : Int) (hs : s.size ≤ 1048576) (hn : n ≤ 8796093022207) (hn' : n' ≤ 8796093022207) (w : World) (hm : Hid (w.cell? ⟨3, 0, none⟩ = some (.int .i64 m))) (hmx : 3 < w.heap.size) (ht : Hid (TabAt w)) (B : Nat) (hB : B ≤ w.heap.size) (hh : Hid (PrsAt w B A n l)) (hh' : Hid (PrsAt w B A' n' ms)) :
    Calls Tryd.prog 8 #[.agg #[.slice A n c, .slice A' n' c'], .string s] w (TickOut l ms s.data.toList w) := by
  have hl' := Lib.hid hh'.out.1
  obtain ⟨W, gx, hW, hgx, HHW, HBW, HSW⟩ := cell_new0 w 25 #[.slice A n c, .slice A' n' c']
  obtain ⟨b0, b1, _, _⟩ := pr_cells HHW.out
  have hhW : Hid (PrsAt W B A n l) := hh.out.below HBW.out hB
  have hhW' : Hid (PrsAt W B A' n' ms) := hh'.out.below HBW.out hB
  have hBW : B ≤ W.heap.size := by have := HBW.out.size; omega
  have hgw := blk_lt HHW.out
  obtain ⟨x, hx⟩ : ∃ x, chkT l ms = x := ⟨_, rfl⟩
  have HX := Lib.hid hx
  have HCC := Lib.hid (And.intro b0 b1)
  clear hx
  by_cases h0 : x = 0
  rotate_left
  · have hq : ((x : Int) != 0) = true := by simpa using h0
    go_enter Tryd.func8, Tryd.ntmps8
    go_upto_region 1 with (fail)
    rw [← hW, ← hgx]
    clear hW hgx
    go_wp2_with (go_at_call 21; refine (CHECKTEMPO_any A A' n c n' c' l ms hn hn' _ B hBW hhW hhW').mono ?_; rintro e w1 ⟨rfl, hb1⟩; rw [HX.out])
    refine bodyPost_ret (v := .tuple #[.int .i64 0, .int .i64 x]) (by simp [results, Tryd.results8, go_sem]) rfl ?_
    unfold TickOut
    exact ⟨(0, x), rfl, ⟨fun _ => by rw [HX.out], fun h => absurd h (by rw [HX.out]; exact h0)⟩, HBW.out.trans (hb1.mono HBW.out.size)⟩
  subst h0
  have HM := Lib.hid (chkT_met HX.out)
  have HTS : Hid (∀ z, TickP ms s.data.toList z → TickS l ms s.data.toList z) := fun z hz => ⟨fun h => absurd HX.out h, fun _ => hz⟩
  go_enter Tryd.func8, Tryd.ntmps8
  go_upto_region 1 with (fail)
  rw [← hW, ← hgx]
  clear hW hgx
  go_upto_region 4 with (go_at_call 21; refine (CHECKTEMPO_any A A' n c n' c' l ms hn hn' _ B hBW hhW hhW').mono ?_; rintro e w1 ⟨rfl, hb1⟩; rw [HX.out])
  have hs1 := hb1.size
  have HB1 := Lib.hid (HBW.out.trans (hb1.mono HBW.out.size))
  have HC1 : Hid (w1.cell? ⟨gx, 0, none⟩ = some (.slice A n c) ∧ w1.cell? ⟨gx, 1, none⟩ = some (.slice A' n' c')) := ⟨(hb1.cell (p := ⟨gx, 0, none⟩) hgw).trans HCC.out.1, (hb1.cell (p := ⟨gx, 1, none⟩) hgw).trans HCC.out.2⟩
  have hg1 : gx < w1.heap.size := by omega
  have hh1 : Hid (PrsAt w1 B A n l) := hhW.out.below hb1 hBW
  have hh1' : Hid (PrsAt w1 B A' n' ms) := hhW'.out.below hb1 hBW
  have ht1 : Hid (TabAt w1) := ht.out.below HB1.out
  have hm1 : Hid (w1.cell? ⟨3, 0, none⟩ = some (.int .i64 m)) := (HB1.out.cell (p := ⟨3, 0, none⟩) hmx).trans hm.out
  have hBw1 : B ≤ w1.heap.size := by omega
  clear b0 b1 hb1 HBW hgw hhW hhW' HHW HSW
  go_upto_region 5 with (go_at_call 25; refine (SPLIT_any s m hs _ hm1).mono ?_; rintro e w2 ⟨gs, k, P, rfl, hk, HP, HPC, hb2⟩)
  obtain ⟨W2, rfl⟩ : ∃ x : World, x = w2 := ⟨_, rfl⟩
  have hs2 := hb2.out.size
  have HB2 := Lib.hid (HB1.out.trans (hb2.out.mono HB1.out.size))
  have HC2 : Hid (W2.cell? ⟨gx, 0, none⟩ = some (.slice A n c) ∧ W2.cell? ⟨gx, 1, none⟩ = some (.slice A' n' c')) := ⟨(hb2.out.cell (p := ⟨gx, 0, none⟩) hg1).trans HC1.out.1, (hb2.out.cell (p := ⟨gx, 1, none⟩) hg1).trans HC1.out.2⟩
  have hg2 : gx < W2.heap.size := by omega
  have hh2 : Hid (PrsAt W2 B A n l) := hh1.out.below hb2.out hBw1
  have hh2' : Hid (PrsAt W2 B A' n' ms) := hh1'.out.below hb2.out hBw1
  have ht2 : Hid (TabAt W2) := ht1.out.below hb2.out
  have hBw2 : B ≤ W2.heap.size := by omega
  by_cases h3 : k = 3
  rotate_left
  · have HT := Lib.hid (HTS.out _ (parts_not3 HP.out (by rw [hk]; exact h3) HM.out))
    have hq : ((k : Int) != 3) = true := by simp; omega
    clear hk h3
    go_wp2_with fail
    refine bodyPost_ret (v := .tuple #[.int .i64 0, .int .i64 10]) (by simp [results, Tryd.results8, go_sem]) rfl ?_
    unfold TickOut
    exact ⟨(0, 10), rfl, HT.out, HB2.out⟩
  subst h3
  obtain ⟨p0, p1, p2, rfl, hc3, hs3⟩ := parts3 HP.out hk
  have HPA := Lib.hid (fun (t : Int) => tick_parts HM.out hc3 hs3 (t := t))
  have HNO := Lib.hid (fun (hn : ∀ t : Int, 0 ≤ t → t ≤ 1000000000 → barTxt ms t ≠ s.data.toList) => HTS.out (0, 10) (.inr ⟨rfl, hn⟩))
  have hgs := blk_lt HPC.out
  clear hk HP hb2 hh1 hh1' ht1 hm1 HC1
  have hz0 : p0.size ≤ 1048576 := by have := split_le 2 _ p0.data.toList (by rw [hs3]; simp); rw [len_data, len_data] at this; omega
  have hz1 : p1.size ≤ 1048576 := by have := split_le 2 _ p1.data.toList (by rw [hs3]; simp); rw [len_data, len_data] at this; omega
  have hz2 : p2.size ≤ 1048576 := by have := split_le 2 _ p2.data.toList (by rw [hs3]; simp); rw [len_data, len_data] at this; omega
  clear hc3 hs3
  obtain ⟨W3, g8, hW3, hg8, HA0, HB9, HS9⟩ := cell_new0 W2 60 #[.int .i64 0, .int .i64 0, .int .i64 0]
  have HPC3 : Hid (W3.heap[gs]? = some (.cells #[.string p0, .string p1, .string p2] 9 (0, 0))) := (HB9.out.block gs hgs).trans HPC.out
  have HC3 : Hid (W3.cell? ⟨gx, 0, none⟩ = some (.slice A n c) ∧ W3.cell? ⟨gx, 1, none⟩ = some (.slice A' n' c')) := ⟨(HB9.out.cell (p := ⟨gx, 0, none⟩) hg2).trans HC2.out.1, (HB9.out.cell (p := ⟨gx, 1, none⟩) hg2).trans HC2.out.2⟩
  have hh3 : Hid (PrsAt W3 B A n l) := hh2.out.below HB9.out hBw2
  have hh3' : Hid (PrsAt W3 B A' n' ms) := hh2'.out.below HB9.out hBw2
  have ht3 : Hid (TabAt W3) := ht2.out.below HB9.out
  have hw23 := HB9.out.size
  have hg8b : W2.heap.size ≤ g8 := by omega
  have hg8n : g8 ≠ gx := by omega
  have HB3 : Hid (Below W2.heap.size W2 W3) := HB9.out
  have HBA := HB2
  have hw02 : w.heap.size ≤ W2.heap.size := HB2.out.size
  go_upto_region 8 with (fail)
  rw [← hW3, ← hg8]
  clear hW3 hg8 HPC HB9 HS9 HC2 hh2 hh2' ht2 HB2
  go_wp2_with fail
  go_loopw [30] (fun i wr => (i = .int .i64 0 ∧ Hid (wr.heap[g8]? = some (.cells #[.int .i64 0, .int .i64 0, .int .i64 0] 60 (0, 0))) ∧ Hid (Below W2.heap.size W3 wr)) ∨
    (i = .int .i64 1 ∧ (Hid (GoodD p0.data.toList) ∧ Hid (p0.size ≤ 11)) ∧ Hid (wr.heap[g8]? = some (.cells #[.int .i64 (decV p0.data.toList : Nat), .int .i64 0, .int .i64 0] 60 (0, 0))) ∧ Hid (Below W2.heap.size W3 wr)) ∨
    (i = .int .i64 2 ∧ (Hid (GoodD p0.data.toList) ∧ Hid (p0.size ≤ 11)) ∧ (Hid (GoodD p1.data.toList) ∧ Hid (p1.size ≤ 11)) ∧ Hid (wr.heap[g8]? = some (.cells #[.int .i64 (decV p0.data.toList : Nat), .int .i64 (decV p1.data.toList : Nat), .int .i64 0] 60 (0, 0))) ∧ Hid (Below W2.heap.size W3 wr)) ∨
    (i = .int .i64 3 ∧ (Hid (GoodD p0.data.toList) ∧ Hid (p0.size ≤ 11)) ∧ (Hid (GoodD p1.data.toList) ∧ Hid (p1.size ≤ 11)) ∧ (Hid (GoodD p2.data.toList) ∧ Hid (p2.size ≤ 11)) ∧ Hid (wr.heap[g8]? = some (.cells #[.int .i64 (decV p0.data.toList : Nat), .int .i64 (decV p1.data.toList : Nat), .int .i64 (decV p2.data.toList : Nat)] 60 (0, 0))) ∧ Hid (Below W2.heap.size W3 wr))) (fun i _ => 3 - (intOf i).toNat)
  case atStart => exact .inl ⟨rfl, HA0, Below.refl _ _⟩
  case round =>
    rcases hrel with ⟨rfl, HA, hb⟩ | ⟨rfl, H0, HA, hb⟩ | ⟨rfl, H0, H1, HA, hb⟩ | ⟨rfl, H0, H1, H2, HA, hb⟩
    · obtain ⟨q0, q1, q2, _, _, _⟩ := tri_cells ((hb.out.block gs hgs).trans HPC3.out)
      by_cases hG : GoodD p0.data.toList
      rotate_left
      · have HF := Lib.hid (goodD_false hG)
        have HT := Lib.hid (HNO.out (fun t t0 t1 e => hG (HPA.out t t0 t1 e).1.1))
        go_wp2_with (go_at_call 26; refine (CDIGITS_any p0 (by unfold maxLen; omega) _).mono ?_; rintro e w5 ⟨rfl, rfl⟩; rw [HF.out])
        refine bodyPost_ret (v := .tuple #[.int .i64 0, .int .i64 10]) (by simp [results, Tryd.results8, go_sem]) rfl ?_
        unfold TickOut
        exact ⟨(0, 10), rfl, HT.out, HBA.out.trans ((HB3.out.trans hb.out).mono hw02)⟩
      have HGt := Lib.hid (goodD_true hG)
      by_cases hS : p0.size ≤ 11
      rotate_left
      · have HT := Lib.hid (HNO.out (fun t t0 t1 e => hS (by have := (HPA.out t t0 t1 e).2.1.1; rw [len_data] at this; omega)))
        go_wp2_with (go_at_call 26; refine (CDIGITS_any p0 (by unfold maxLen; omega) _).mono ?_; rintro e w5 ⟨rfl, rfl⟩; rw [HGt.out])
        refine bodyPost_ret (v := .tuple #[.int .i64 0, .int .i64 10]) (by simp [results, Tryd.results8, go_sem]) rfl ?_
        unfold TickOut
        exact ⟨(0, 10), rfl, HT.out, HBA.out.trans ((HB3.out.trans hb.out).mono hw02)⟩
      have HAD : Hid (AllDig p0.data.toList) := hG.1
      have hpos := good_size hG
      have hg8r := blk_lt HA.out
      have HD0 := Lib.hid hG
      have HS0 := Lib.hid hS
      go_wp2_with (first
        | (go_at_call 26; refine (CDIGITS_any p0 (by unfold maxLen; omega) _).mono ?_; rintro e w5 ⟨rfl, rfl⟩; rw [HGt.out])
        | (go_at_call 27; refine (ATOI_any p0 (by omega) hpos HAD _).mono ?_; rintro e w6 ⟨rfl, hb6⟩; have HA6 := Lib.hid ((hb6.block g8 hg8r).trans HA.out); obtain ⟨c0, c1, c2, f0, f1, f2⟩ := tri_cells HA6.out))
      have HA7 := Lib.hid (tri_set (j := 0) (v := .int .i64 ((decV p0.data.toList : Nat) : Int)) HA6.out)
      have HB7 := Lib.hid ((hb.out.trans (hb6.mono (by have := hb.out.size; omega))).setCell (p := ⟨g8, 0, none⟩) hg8b (.int .i64 ((decV p0.data.toList : Nat) : Int)))
      go_roundw
      case rel => exact .inr (.inl ⟨rfl, ⟨HD0, HS0⟩, (by have h := HA7; exact h), HB7⟩)
      case measure => simp [intOf]
    · obtain ⟨q0, q1, q2, _, _, _⟩ := tri_cells ((hb.out.block gs hgs).trans HPC3.out)
      by_cases hG : GoodD p1.data.toList
      rotate_left
      · have HF := Lib.hid (goodD_false hG)
        have HT := Lib.hid (HNO.out (fun t t0 t1 e => hG (HPA.out t t0 t1 e).1.2.1))
        go_wp2_with (go_at_call 26; refine (CDIGITS_any p1 (by unfold maxLen; omega) _).mono ?_; rintro e w5 ⟨rfl, rfl⟩; rw [HF.out])
        refine bodyPost_ret (v := .tuple #[.int .i64 0, .int .i64 10]) (by simp [results, Tryd.results8, go_sem]) rfl ?_
        unfold TickOut
        exact ⟨(0, 10), rfl, HT.out, HBA.out.trans ((HB3.out.trans hb.out).mono hw02)⟩
      have HGt := Lib.hid (goodD_true hG)
      by_cases hS : p1.size ≤ 11
      rotate_left
      · have HT := Lib.hid (HNO.out (fun t t0 t1 e => hS (by have := (HPA.out t t0 t1 e).2.1.2.1; rw [len_data] at this; omega)))
        go_wp2_with (go_at_call 26; refine (CDIGITS_any p1 (by unfold maxLen; omega) _).mono ?_; rintro e w5 ⟨rfl, rfl⟩; rw [HGt.out])
        refine bodyPost_ret (v := .tuple #[.int .i64 0, .int .i64 10]) (by simp [results, Tryd.results8, go_sem]) rfl ?_
        unfold TickOut
        exact ⟨(0, 10), rfl, HT.out, HBA.out.trans ((HB3.out.trans hb.out).mono hw02)⟩
      have HAD : Hid (AllDig p1.data.toList) := hG.1
      have hpos := good_size hG
      have hg8r := blk_lt HA.out
      have HD1 := Lib.hid hG
      have HS1 := Lib.hid hS
      go_wp2_with (first
        | (go_at_call 26; refine (CDIGITS_any p1 (by unfold maxLen; omega) _).mono ?_; rintro e w5 ⟨rfl, rfl⟩; rw [HGt.out])
        | (go_at_call 27; refine (ATOI_any p1 (by omega) hpos HAD _).mono ?_; rintro e w6 ⟨rfl, hb6⟩; have HA6 := Lib.hid ((hb6.block g8 hg8r).trans HA.out); obtain ⟨c0, c1, c2, f0, f1, f2⟩ := tri_cells HA6.out))
      have HA7 := Lib.hid (tri_set (j := 1) (v := .int .i64 ((decV p1.data.toList : Nat) : Int)) HA6.out)
      have HB7 := Lib.hid ((hb.out.trans (hb6.mono (by have := hb.out.size; omega))).setCell (p := ⟨g8, 1, none⟩) hg8b (.int .i64 ((decV p1.data.toList : Nat) : Int)))
      go_roundw
      case rel => exact .inr (.inr (.inl ⟨rfl, H0, ⟨HD1, HS1⟩, (by have h := HA7; exact h), HB7⟩))
      case measure => simp [intOf]
    · obtain ⟨q0, q1, q2, _, _, _⟩ := tri_cells ((hb.out.block gs hgs).trans HPC3.out)
      by_cases hG : GoodD p2.data.toList
      rotate_left
      · have HF := Lib.hid (goodD_false hG)
        have HT := Lib.hid (HNO.out (fun t t0 t1 e => hG (HPA.out t t0 t1 e).1.2.2))
        go_wp2_with (go_at_call 26; refine (CDIGITS_any p2 (by unfold maxLen; omega) _).mono ?_; rintro e w5 ⟨rfl, rfl⟩; rw [HF.out])
        refine bodyPost_ret (v := .tuple #[.int .i64 0, .int .i64 10]) (by simp [results, Tryd.results8, go_sem]) rfl ?_
        unfold TickOut
        exact ⟨(0, 10), rfl, HT.out, HBA.out.trans ((HB3.out.trans hb.out).mono hw02)⟩
      have HGt := Lib.hid (goodD_true hG)
      by_cases hS : p2.size ≤ 11
      rotate_left
      · have HT := Lib.hid (HNO.out (fun t t0 t1 e => hS (by have := (HPA.out t t0 t1 e).2.1.2.2; rw [len_data] at this; omega)))
        go_wp2_with (go_at_call 26; refine (CDIGITS_any p2 (by unfold maxLen; omega) _).mono ?_; rintro e w5 ⟨rfl, rfl⟩; rw [HGt.out])
        refine bodyPost_ret (v := .tuple #[.int .i64 0, .int .i64 10]) (by simp [results, Tryd.results8, go_sem]) rfl ?_
        unfold TickOut
        exact ⟨(0, 10), rfl, HT.out, HBA.out.trans ((HB3.out.trans hb.out).mono hw02)⟩
      have HAD : Hid (AllDig p2.data.toList) := hG.1
      have hpos := good_size hG
      have hg8r := blk_lt HA.out
      have HD2 := Lib.hid hG
      have HS2 := Lib.hid hS
      go_wp2_with (first
        | (go_at_call 26; refine (CDIGITS_any p2 (by unfold maxLen; omega) _).mono ?_; rintro e w5 ⟨rfl, rfl⟩; rw [HGt.out])
        | (go_at_call 27; refine (ATOI_any p2 (by omega) hpos HAD _).mono ?_; rintro e w6 ⟨rfl, hb6⟩; have HA6 := Lib.hid ((hb6.block g8 hg8r).trans HA.out); obtain ⟨c0, c1, c2, f0, f1, f2⟩ := tri_cells HA6.out))
      have HA7 := Lib.hid (tri_set (j := 2) (v := .int .i64 ((decV p2.data.toList : Nat) : Int)) HA6.out)
      have HB7 := Lib.hid ((hb.out.trans (hb6.mono (by have := hb.out.size; omega))).setCell (p := ⟨g8, 2, none⟩) hg8b (.int .i64 ((decV p2.data.toList : Nat) : Int)))
      go_roundw
      case rel => exact .inr (.inr (.inr ⟨rfl, H0, H1, ⟨HD2, HS2⟩, (by have h := HA7; exact h), HB7⟩))
      case measure => simp [intOf]
    · obtain ⟨c0, c1, c2, _, _, _⟩ := tri_cells HA.out
      have hcx := (hb.out.cell (p := ⟨gx, 1, none⟩) hg2).trans HC3.out.2
      obtain ⟨d0, hd0⟩ : ∃ d : Nat, decV p0.data.toList = d := ⟨_, rfl⟩
      rw [hd0] at c0
      have hlt0 := decV_lt 11 p0.data.toList (by rw [len_data]; exact H0.2.out) H0.1.out.1
      rw [hd0] at hlt0
      have hlt : (d0 : Int) < 100000000000 := by omega
      obtain ⟨b, hb9⟩ : ∃ b, (d0 : Int) - 1 = b := ⟨_, rfl⟩
      have hbl : b < 100000000000 := by omega
      have HBD := Lib.hid hb9
      have HD0 := Lib.hid hd0
      go_upto_block 2 with (fail)
      try rw [hb9]
      obtain ⟨V, rfl⟩ : ∃ x : World, x = wr := ⟨_, rfl⟩
      clear hb9 hd0 hlt
      have hsV := hb.out.size
      have hBV : B ≤ V.heap.size := by omega
      have hgxV : gx < V.heap.size := by omega
      have hh4' : Hid (PrsAt V B A' n' ms) := hh3'.out.below hb.out hBw2
      have hnl : n' ≤ 200 := by rw [← hl'.out]; exact HM.out.few
      go_cut [12] (fun v wx => v = .int .i64 (posC ms b n') ∧ Hid (Below V.heap.size V wx))
      case rest =>
        obtain ⟨rfl, HBV⟩ := hcut
        obtain ⟨V5, rfl⟩ : ∃ x : World, x = wc := ⟨_, rfl⟩
        have hsV5 := HBV.out.size
        have HA5 := Lib.hid ((HBV.out.block g8 (blk_lt HA.out)).trans HA.out)
        obtain ⟨c0', c1', c2', _, _, _⟩ := tri_cells HA5.out
        have hx0 := (HBV.out.cell (p := ⟨gx, 0, none⟩) hgxV).trans ((hb.out.cell (p := ⟨gx, 0, none⟩) hg2).trans HC3.out.1)
        have hx1 := (HBV.out.cell (p := ⟨gx, 1, none⟩) hgxV).trans hcx
        have hlt1 := decV_lt 11 p1.data.toList (by rw [len_data]; exact H1.2.out) H1.1.out.1
        have hlt2 := decV_lt 11 p2.data.toList (by rw [len_data]; exact H2.2.out) H2.1.out.1
        obtain ⟨d1, hd1⟩ : ∃ d : Nat, decV p1.data.toList = d := ⟨_, rfl⟩
        obtain ⟨d2, hd2⟩ : ∃ d : Nat, decV p2.data.toList = d := ⟨_, rfl⟩
        rw [hd1] at c1' hlt1
        rw [hd2] at c2' hlt2
        have hl1 : (d1 : Int) < 100000000000 := by omega
        have hl2 : (d2 : Int) < 100000000000 := by omega
        obtain ⟨hq1, hq2⟩ := posC_bd HM.out (b := b) (by omega) n' (by rw [hl'.out]; exact Nat.le_refl _)
        have HTC : Hid (tickC ms (decV p0.data.toList : Nat) (decV p1.data.toList : Nat) (decV p2.data.toList : Nat) = posC ms b n' + (((d1 : Int) - 1) * 960 + d2)) := by
          show _ = _
          unfold tickC
          rw [HD0.out, hd1, hd2, HBD.out, hl'.out]; omega
        obtain ⟨Q, hQ⟩ : ∃ Q, posC ms b n' = Q := ⟨_, rfl⟩
        rw [hQ] at HTC hq1 hq2 ⊢
        have hq3 : Q ≤ 614400000000000000 := by omega
        have HTT := Lib.hid (fun (t : Int) t0 t1 e => (HTC.out ▸ (HPA.out t t0 t1 e).2.2.1 : Q + (((d1 : Int) - 1) * 960 + d2) = t))
        have HB5 := Lib.hid (HBA.out.trans ((HB3.out.trans (hb.out.trans (HBV.out.mono (by omega)))).mono hw02))
        have hh5 : Hid (PrsAt V5 B A n l) := hh3.out.below (hb.out.trans (HBV.out.mono (by omega))) hBw2
        have hh5' : Hid (PrsAt V5 B A' n' ms) := hh4'.out.below HBV.out hBV
        have hB5 : B ≤ V5.heap.size := by omega
        have ht5 : Hid (TabAt V5) := ht.out.below HB5.out
        clear hd1 hd2 hQ hcx c0 c1 c2 c0' hlt1 hlt2 hlt0 hh4' HTC HPA HA HPC3 HC3 HBV
        obtain ⟨T, hT⟩ : ∃ T, Q + (((d1 : Int) - 1) * 960 + d2) = T := ⟨_, rfl⟩
        have HTQ := Lib.hid hT
        rw [hT] at HTT
        have hTl : Q + (((d1 : Int) - 1) * 960 + d2) ≤ 700000000000000000 := by omega
        have hTg : -1000000 ≤ Q + (((d1 : Int) - 1) * 960 + d2) := by omega
        clear hT
        go_upto_region 26 with (fail)
        rw [HTQ.out]
        clear hTl hTg c1' c2' hl1 hl2 hq1 hq2 hq3 HA5
        by_cases hT0 : T < 0
        · have HT := Lib.hid (HNO.out (fun t t0 t1 e => by have := HTT.out t t0 t1 e; omega))
          go_wp2_with fail
          refine bodyPost_ret (v := .tuple #[.int .i64 0, .int .i64 10]) (by simp [results, Tryd.results8, go_sem]) rfl ?_
          unfold TickOut
          exact ⟨(0, 10), rfl, HT.out, HB5.out⟩
        by_cases hT1 : 1000000000 < T
        · have HT := Lib.hid (HNO.out (fun t t0 t1 e => by have := HTT.out t t0 t1 e; omega))
          have hT2 : 0 ≤ T := by omega
          go_wp2_with fail
          refine bodyPost_ret (v := .tuple #[.int .i64 0, .int .i64 10]) (by simp [results, Tryd.results8, go_sem]) rfl ?_
          unfold TickOut
          exact ⟨(0, 10), rfl, HT.out, HB5.out⟩
        have hT2 : 0 ≤ T := by omega
        have hT3 : T ≤ 1000000000 := by omega
        have HBS : Hid (barS l ms T = (barTxt ms T, 0)) := by show _ = _; unfold barS; rw [HX.out, if_neg (by simp), if_neg (by omega)]
        clear hT0 hT1
        go_upto_region 29 with (go_at_call 6; refine (BAROF_any A A' n c n' c' l ms T hn hn' _ ht5 B hB5 hh5 hh5').mono ?_; rw [HBS.out]; rintro e w6 ⟨z, rfl, hz, hb6⟩)
        have HZ : Hid (z.data.toList = barTxt ms T) := hz
        have HB6 := Lib.hid (HB5.out.trans (hb6.mono HB5.out.size))
        clear hz hb6
        by_cases hzs : z = s
        · subst hzs
          have HT := Lib.hid (HTS.out (T, 0) (.inl ⟨rfl, ⟨hT2, hT3⟩, HZ.out.symm⟩))
          go_wp2_with fail
          refine bodyPost_ret (v := .tuple #[.int .i64 T, .int .i64 0]) (by simp [results, Tryd.results8, go_sem]) rfl ?_
          unfold TickOut
          exact ⟨(T, 0), rfl, HT.out, HB6.out⟩
        · have HT := Lib.hid (HNO.out (fun t t0 t1 e => hzs (by
            have h1 := HTT.out t t0 t1 e
            subst h1
            exact ByteArray.ext (Array.toList_inj.1 (by rw [HZ.out]; exact e)))))
          have hz1 : (z.toList == s.toList) = false := by
            rw [ByteArray.toList_eq, ByteArray.toList_eq]
            simp only [beq_eq_false_iff_ne, ne_eq]
            exact fun e => hzs (ByteArray.ext (Array.toList_inj.1 e))
          go_wp2_with fail
          refine bodyPost_ret (v := .tuple #[.int .i64 0, .int .i64 10]) (by simp [results, Tryd.results8, go_sem]) rfl ?_
          unfold TickOut
          exact ⟨(0, 10), rfl, HT.out, HB6.out⟩
      case first =>
        have HCX := Lib.hid hcx
        go_wp2_with fail
        clear hcx
        go_loopw [12, 57] (fun v i wr => ∃ k : Nat, k ≤ n' ∧ i = .int .i64 k ∧ v = .int .i64 (posC ms b k) ∧ Hid (Below V.heap.size V wr)) (fun _ i _ => n' - (intOf i).toNat)
        case atStart => exact ⟨0, Nat.zero_le _, rfl, rfl, Below.refl _ _⟩
        case round =>
          obtain ⟨k, hk, rfl, rfl, hbr⟩ := hrel
          have hsr := hbr.out.size
          have hcr := (hbr.out.cell (p := ⟨gx, 1, none⟩) hgxV).trans HCX.out
          have hgxr : gx < wr.heap.size := by omega
          by_cases hlt : k < n'
          · obtain ⟨bA, oA, rfl, hbA, k1, k2⟩ := (hh4'.out.below hbr.out hBV).2 k hlt
            have hkl : k < ms.length := by rw [hl'.out]; exact hlt
            have hbAr : bA < wr.heap.size := by omega
            obtain ⟨⟨r1, r2⟩, r3, r4⟩ := HM.out.rng k hkl
            obtain ⟨hp1, hp2⟩ := posC_bd HM.out (b := b) (by omega) k (by omega)
            have hp2 : posC ms b k ≤ 614400000000000000 := by omega
            obtain ⟨p, hp⟩ : ∃ p, prOf ms k = p := ⟨_, rfl⟩
            obtain ⟨a, m9⟩ := p
            have HPP := Lib.hid hp
            rw [hp] at k1 k2 r1 r2 r3 r4
            dsimp only at k1 k2 r1 r2 r3 r4
            have hk0 : (0 : Int) ≤ (k : Int) := by omega
            have hkn : (k : Int) < (n' : Int) := by omega
            have HBX9 : Hid (Below V.heap.size V (wr.alloc (.cells #[.int .i64 a, .int .i64 m9] 55))) := hbr.out.alloc hsr _
            clear hp
            by_cases hk1 : k + 1 < n'
            · obtain ⟨b9, o9, e9, _, q1, _⟩ := (hh4'.out.below hbr.out hBV).2 (k + 1) hk1
              injection e9 with e9
              injection e9 with e8 e7 _
              subst e8 e7
              obtain ⟨⟨g1, g2⟩, _⟩ := HM.out.rng (k + 1) (by rw [hl'.out]; exact hk1)
              obtain ⟨q, hq⟩ : ∃ q, (prOf ms (k + 1)).1 = q := ⟨_, rfl⟩
              have HQ9 := Lib.hid hq
              rw [hq] at q1 g1 g2
              have hkI : (k : Int) + 1 < (n' : Int) := by omega
              have q1' : wr.cell? ⟨bA, oA + (k + 1) * 2, none⟩ = some (.int .i64 q) := q1
              clear hq q1
              by_cases hbq : b ≤ q
              · have hmin : min b q = b := by omega
                have HEE : Hid ((if k + 1 < ms.length then min b (prOf ms (k + 1)).1 else b) = b) := by show _ = _; rw [hl'.out]; first | (rw [if_pos hk1, HQ9.out]; omega) | (rw [if_neg hk1])
                by_cases hle : b ≤ a
                · have HV := Lib.hid (posC_stop2 HM.out (b := b) hkl (by rw [HEE.out, HPP.out]; exact hle))
                  rw [hl'.out] at HV
                  go_wp2_with fail
                  go_meet
                  exact ⟨by rw [HV.out], HBX9⟩
                · have HV := Lib.hid (posC_step HEE.out (by rw [HPP.out]; exact hle))
                  rw [HPP.out] at HV
                  have hlf : decide (b ≤ a) = false := decide_eq_false hle
                  have hgt : a < b := by omega
                  have hgl : b < 100000000001 := by omega
                  obtain ⟨hm1, hm2⟩ := mul_bd (a := b - a) (c := 100000000000) (by omega) (by omega) (by omega : 0 ≤ m9) r4
                  dsimp only at HV
                  obtain ⟨S, hS⟩ : ∃ S, posC ms b k = S := ⟨_, rfl⟩
                  rw [hS] at HV hp1 hp2 ⊢
                  obtain ⟨Z, hZ⟩ : ∃ Z, (b - a) * m9 = Z := ⟨_, rfl⟩
                  rw [hZ] at HV hm1 hm2
                  have kw1 : IntKind.i64.wrap ((b - a) * m9) = Z := by rw [hZ]; exact IntWalk.i64_in _ (by omega)
                  have kw2 : wrap64 ((b - a) * m9) = Z := by rw [hZ]; exact IntWalk.wrap64_in _ ⟨by omega, by omega⟩
                  clear hS hZ hle HEE
                  go_wp2_with fail
                  go_roundw
                  case rel => exact ⟨k + 1, by omega, by go_num, by rw [HV.out], HBX9⟩
                  case measure => simp [intOf]; omega
              · have hmin : min b q = q := by omega
                have hbq2 : q < b := by omega
                have HEE : Hid ((if k + 1 < ms.length then min b (prOf ms (k + 1)).1 else b) = q) := by show _ = _; rw [hl'.out]; first | (rw [if_pos hk1, HQ9.out]; omega) | (rw [if_neg hk1])
                by_cases hle : q ≤ a
                · have HV := Lib.hid (posC_stop2 HM.out (b := b) hkl (by rw [HEE.out, HPP.out]; exact hle))
                  rw [hl'.out] at HV
                  go_wp2_with fail
                  go_meet
                  exact ⟨by rw [HV.out], HBX9⟩
                · have HV := Lib.hid (posC_step HEE.out (by rw [HPP.out]; exact hle))
                  rw [HPP.out] at HV
                  have hlf : decide (q ≤ a) = false := decide_eq_false hle
                  have hgt : a < q := by omega
                  have hgl : q < 100000000001 := by omega
                  obtain ⟨hm1, hm2⟩ := mul_bd (a := q - a) (c := 100000000000) (by omega) (by omega) (by omega : 0 ≤ m9) r4
                  dsimp only at HV
                  obtain ⟨S, hS⟩ : ∃ S, posC ms b k = S := ⟨_, rfl⟩
                  rw [hS] at HV hp1 hp2 ⊢
                  obtain ⟨Z, hZ⟩ : ∃ Z, (q - a) * m9 = Z := ⟨_, rfl⟩
                  rw [hZ] at HV hm1 hm2
                  have kw1 : IntKind.i64.wrap ((q - a) * m9) = Z := by rw [hZ]; exact IntWalk.i64_in _ (by omega)
                  have kw2 : wrap64 ((q - a) * m9) = Z := by rw [hZ]; exact IntWalk.wrap64_in _ ⟨by omega, by omega⟩
                  clear hS hZ hle HEE
                  go_wp2_with fail
                  go_roundw
                  case rel => exact ⟨k + 1, by omega, by go_num, by rw [HV.out], HBX9⟩
                  case measure => simp [intOf]; omega
            · have hkf : decide ((k : Int) + 1 < (n' : Int)) = false := by simp; omega
              have HQ9 : Hid (0 = 0) := Lib.hid rfl
              have HEE : Hid ((if k + 1 < ms.length then min b (prOf ms (k + 1)).1 else b) = b) := by show _ = _; rw [hl'.out]; first | (rw [if_pos hk1, HQ9.out]; omega) | (rw [if_neg hk1])
              by_cases hle : b ≤ a
              · have HV := Lib.hid (posC_stop2 HM.out (b := b) hkl (by rw [HEE.out, HPP.out]; exact hle))
                rw [hl'.out] at HV
                go_wp2_with fail
                go_meet
                exact ⟨by rw [HV.out], HBX9⟩
              · have HV := Lib.hid (posC_step HEE.out (by rw [HPP.out]; exact hle))
                rw [HPP.out] at HV
                have hlf : decide (b ≤ a) = false := decide_eq_false hle
                have hgt : a < b := by omega
                have hgl : b < 100000000001 := by omega
                obtain ⟨hm1, hm2⟩ := mul_bd (a := b - a) (c := 100000000000) (by omega) (by omega) (by omega : 0 ≤ m9) r4
                dsimp only at HV
                obtain ⟨S, hS⟩ : ∃ S, posC ms b k = S := ⟨_, rfl⟩
                rw [hS] at HV hp1 hp2 ⊢
                obtain ⟨Z, hZ⟩ : ∃ Z, (b - a) * m9 = Z := ⟨_, rfl⟩
                rw [hZ] at HV hm1 hm2
                have kw1 : IntKind.i64.wrap ((b - a) * m9) = Z := by rw [hZ]; exact IntWalk.i64_in _ (by omega)
                have kw2 : wrap64 ((b - a) * m9) = Z := by rw [hZ]; exact IntWalk.wrap64_in _ ⟨by omega, by omega⟩
                clear hS hZ hle HEE
                go_wp2_with fail
                go_roundw
                case rel => exact ⟨k + 1, by omega, by go_num, by rw [HV.out], HBX9⟩
                case measure => simp [intOf]; omega
          · obtain rfl : k = n' := by omega
            go_wp2_with fail
            go_meet
            exact ⟨rfl, hbr⟩
end Go.Proofs.YthgjgiccoobcgaaDoor
