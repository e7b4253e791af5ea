/- The document's TickOf. -/
import Derived.Test.YthgjgiccoobcgaaDoorRbo
import Derived.Test.YthgjgiccoobcgaaDoorZc
import Derived.Test.YthgjgiccoobcgaaDoorRq
set_option linter.unusedSimpArgs false
set_option linter.unusedVariables false
namespace Go.Proofs.YthgjgiccoobcgaaDoor
open Go.RowKit Go.Dw Go.Joins
set_option maxRecDepth 100000 in
set_option maxHeartbeats 8000000 in
theorem RTICKOF_any (A A' : Option Addr) (n c n' c' : Nat) (l ms : List Pr) (s : ByteArray) (m : Int) (hs : s.size ≤ 1048576) (w : World) (hm : Hid (w.cell? ⟨3, 0, none⟩ = some (.int .i64 m))) (hmx : 3 < w.heap.size) (ht : Hid (TabAt w)) (B : Nat) (hB : B ≤ w.heap.size) (hh : Hid (PrsAt w B A n l)) (hh' : Hid (PrsAt w B A' n' ms)) :
    Calls Tryd.prog 9 #[.agg #[.slice A n c, .slice A' n' c'], .string s] w (TickOut l ms s.data.toList w) := by
  have hl' := Lib.hid hh'.out.1
  obtain ⟨W, gx, hW, hgx, HHW, HBW, HSW⟩ := cell_new0 w 25 #[.slice A n c, .slice A' n' c']
  obtain ⟨b0, b1, _, _⟩ := pr_cells HHW.out
  have hhW : Hid (PrsAt W B A n l) := hh.out.below HBW.out hB
  have hhW' : Hid (PrsAt W B A' n' ms) := hh'.out.below HBW.out hB
  have hBW : B ≤ W.heap.size := by have := HBW.out.size; omega
  have hgw := blk_lt HHW.out
  obtain ⟨x, hx⟩ : ∃ x, chkT l ms = x := ⟨_, rfl⟩
  have HX := Lib.hid hx
  have HCC := Lib.hid (And.intro b0 b1)
  clear hx
  by_cases h0 : x = 0
  rotate_left
  · have hq : ((x : Int) != 0) = true := by simpa using h0
    go_enter Tryd.func9, Tryd.ntmps9
    go_upto_region 1 with (fail)
    rw [← hW, ← hgx]
    clear hW hgx
    go_wp2_with (go_at_call 23; refine (RCHECKTEMPO_any A A' n c n' c' l ms _ B hBW hhW hhW').mono ?_; rintro e w1 ⟨rfl, hb1⟩; rw [HX.out])
    refine bodyPost_ret (v := .tuple #[.int .i64 0, .int .i64 x]) (by simp [results, Tryd.results9, go_sem]) rfl ?_
    unfold TickOut
    exact ⟨(0, x), rfl, ⟨fun _ => by rw [HX.out], fun h => absurd h (by rw [HX.out]; exact h0)⟩, HBW.out.trans (hb1.mono HBW.out.size)⟩
  subst h0
  have HM := Lib.hid (chkT_met HX.out)
  have HTS : Hid (∀ z, TickP ms s.data.toList z → TickS l ms s.data.toList z) := fun z hz => ⟨fun h => absurd HX.out h, fun _ => hz⟩
  go_enter Tryd.func9, Tryd.ntmps9
  go_upto_region 1 with (fail)
  rw [← hW, ← hgx]
  clear hW hgx
  go_upto_region 4 with (go_at_call 23; refine (RCHECKTEMPO_any A A' n c n' c' l ms _ B hBW hhW hhW').mono ?_; rintro e w1 ⟨rfl, hb1⟩; rw [HX.out])
  have hs1 := hb1.size
  have HB1 := Lib.hid (HBW.out.trans (hb1.mono HBW.out.size))
  have HC1 : Hid (w1.cell? ⟨gx, 0, none⟩ = some (.slice A n c) ∧ w1.cell? ⟨gx, 1, none⟩ = some (.slice A' n' c')) := ⟨(hb1.cell (p := ⟨gx, 0, none⟩) hgw).trans HCC.out.1, (hb1.cell (p := ⟨gx, 1, none⟩) hgw).trans HCC.out.2⟩
  have hg1 : gx < w1.heap.size := by omega
  have hh1 : Hid (PrsAt w1 B A n l) := hhW.out.below hb1 hBW
  have hh1' : Hid (PrsAt w1 B A' n' ms) := hhW'.out.below hb1 hBW
  have ht1 : Hid (TabAt w1) := ht.out.below HB1.out
  have hm1 : Hid (w1.cell? ⟨3, 0, none⟩ = some (.int .i64 m)) := (HB1.out.cell (p := ⟨3, 0, none⟩) hmx).trans hm.out
  have hBw1 : B ≤ w1.heap.size := by omega
  clear b0 b1 hb1 HBW hgw hhW hhW' HHW HSW
  go_upto_region 5 with (go_at_call 25; refine (SPLIT_any s m hs _ hm1).mono ?_; rintro e w2 ⟨gs, k, P, rfl, hk, HP, HPC, hb2⟩)
  obtain ⟨W2, rfl⟩ : ∃ x : World, x = w2 := ⟨_, rfl⟩
  have hs2 := hb2.out.size
  have HB2 := Lib.hid (HB1.out.trans (hb2.out.mono HB1.out.size))
  have HC2 : Hid (W2.cell? ⟨gx, 0, none⟩ = some (.slice A n c) ∧ W2.cell? ⟨gx, 1, none⟩ = some (.slice A' n' c')) := ⟨(hb2.out.cell (p := ⟨gx, 0, none⟩) hg1).trans HC1.out.1, (hb2.out.cell (p := ⟨gx, 1, none⟩) hg1).trans HC1.out.2⟩
  have hg2 : gx < W2.heap.size := by omega
  have hh2 : Hid (PrsAt W2 B A n l) := hh1.out.below hb2.out hBw1
  have hh2' : Hid (PrsAt W2 B A' n' ms) := hh1'.out.below hb2.out hBw1
  have ht2 : Hid (TabAt W2) := ht1.out.below hb2.out
  have hBw2 : B ≤ W2.heap.size := by omega
  by_cases h3 : k = 3
  rotate_left
  · have HT := Lib.hid (HTS.out _ (parts_not3 HP.out (by rw [hk]; exact h3) HM.out))
    have hq : ((k : Int) != 3) = true := by simp; omega
    clear hk h3
    go_wp2_with fail
    refine bodyPost_ret (v := .tuple #[.int .i64 0, .int .i64 10]) (by simp [results, Tryd.results9, go_sem]) rfl ?_
    unfold TickOut
    exact ⟨(0, 10), rfl, HT.out, HB2.out⟩
  subst h3
  obtain ⟨p0, p1, p2, rfl, hc3, hs3⟩ := parts3 HP.out hk
  have HPA := Lib.hid (fun (t : Int) => tick_parts HM.out hc3 hs3 (t := t))
  have HNO := Lib.hid (fun (hn : ∀ t : Int, 0 ≤ t → t ≤ 1000000000 → barTxt ms t ≠ s.data.toList) => HTS.out (0, 10) (.inr ⟨rfl, hn⟩))
  have hgs := blk_lt HPC.out
  clear hk HP hb2 hh1 hh1' ht1 hm1 HC1
  have hz0 : p0.size ≤ 1048576 := by have := split_le 2 _ p0.data.toList (by rw [hs3]; simp); rw [len_data, len_data] at this; omega
  have hz1 : p1.size ≤ 1048576 := by have := split_le 2 _ p1.data.toList (by rw [hs3]; simp); rw [len_data, len_data] at this; omega
  have hz2 : p2.size ≤ 1048576 := by have := split_le 2 _ p2.data.toList (by rw [hs3]; simp); rw [len_data, len_data] at this; omega
  have hw02 : w.heap.size ≤ W2.heap.size := HB2.out.size
  clear hc3 hs3
  go_wp2_with fail
  go_loopw [8, 9] (fun v i wr => (i = .int .i64 0 ∧ Hid (OwnI wr W2.heap.size v []) ∧ Hid (Below W2.heap.size W2 wr)) ∨
    (i = .int .i64 1 ∧ (Hid (GoodD p0.data.toList) ∧ Hid (p0.size ≤ 10)) ∧ Hid (OwnI wr W2.heap.size v [((decV p0.data.toList : Nat) : Int)]) ∧ Hid (Below W2.heap.size W2 wr)) ∨
    (i = .int .i64 2 ∧ (Hid (GoodD p0.data.toList) ∧ Hid (p0.size ≤ 10)) ∧ (Hid (GoodD p1.data.toList) ∧ Hid (p1.size ≤ 10)) ∧ Hid (OwnI wr W2.heap.size v [((decV p0.data.toList : Nat) : Int), ((decV p1.data.toList : Nat) : Int)]) ∧ Hid (Below W2.heap.size W2 wr)) ∨
    (i = .int .i64 3 ∧ (Hid (GoodD p0.data.toList) ∧ Hid (p0.size ≤ 10)) ∧ (Hid (GoodD p1.data.toList) ∧ Hid (p1.size ≤ 10)) ∧ (Hid (GoodD p2.data.toList) ∧ Hid (p2.size ≤ 10)) ∧ Hid (OwnI wr W2.heap.size v [((decV p0.data.toList : Nat) : Int), ((decV p1.data.toList : Nat) : Int), ((decV p2.data.toList : Nat) : Int)]) ∧ Hid (Below W2.heap.size W2 wr))) (fun _ i _ => 3 - (intOf i).toNat)
  case atStart => exact .inl ⟨rfl, OwnI.nil _ _, Below.refl _ _⟩
  case round =>
    rcases hrel with ⟨rfl, hO, hb⟩ | ⟨rfl, H0, hO, hb⟩ | ⟨rfl, H0, H1, hO, hb⟩ | ⟨rfl, H0, H1, H2, hO, hb⟩
    · skip
      have hsr := hb.out.size
      have hgsr := (hb.out.block gs hgs).trans HPC.out
      obtain ⟨q0, q1, q2, _, _, _⟩ := tri_cells hgsr
      obtain ⟨A5, c5, rfl, hc5, hc6⟩ := hO.out.len
      replace hO : Hid (OwnI wr W2.heap.size (.slice A5 0 c5) []) := hO
      replace hc5 : 0 ≤ c5 := hc5
      by_cases hG : GoodD p0.data.toList
      rotate_left
      · have HF := Lib.hid (goodD_false hG)
        have HT := Lib.hid (HNO.out (fun t t0 t1 e => hG (HPA.out t t0 t1 e).1.1))
        go_wp2_with (go_at_call 28; refine (RNUMB_any p0 (by unfold maxLen; omega) _).mono ?_; rintro e w5 ⟨rfl, rfl⟩; rw [HF.out])
        refine bodyPost_ret (v := .tuple #[.int .i64 0, .int .i64 10]) (by simp [results, Tryd.results9, go_sem]) rfl ?_
        unfold TickOut
        exact ⟨(0, 10), rfl, HT.out, HB2.out.trans (hb.out.mono hw02)⟩
      have HGt := Lib.hid (goodD_true hG)
      by_cases hS : p0.size ≤ 10
      rotate_left
      · have HT := Lib.hid (HNO.out (fun t t0 t1 e => hS (by have := (HPA.out t t0 t1 e).2.1.1; rw [len_data] at this; omega)))
        go_wp2_with (go_at_call 28; refine (RNUMB_any p0 (by unfold maxLen; omega) _).mono ?_; rintro e w5 ⟨rfl, rfl⟩; rw [HGt.out])
        refine bodyPost_ret (v := .tuple #[.int .i64 0, .int .i64 10]) (by simp [results, Tryd.results9, go_sem]) rfl ?_
        unfold TickOut
        exact ⟨(0, 10), rfl, HT.out, HB2.out.trans (hb.out.mono hw02)⟩
      have HAD : Hid (AllDig p0.data.toList) := hG.1
      have hpos := good_size hG
      have HD0 := Lib.hid hG
      have HS0 := Lib.hid hS
      have hlen9 : ([] : List Int).length = 0 := rfl
      go_wp2_with (first
        | (go_at_call 28; refine (RNUMB_any p0 (by unfold maxLen; omega) _).mono ?_; rintro e w5 ⟨rfl, rfl⟩; rw [HGt.out])
        | (go_at_call 27; refine (ATOI_any p0 (by omega) hpos HAD _).mono ?_; rintro e w6 ⟨rfl, hb6⟩; have HO6 := Lib.hid (hO.out.below hb6); have hs6 : W2.heap.size ≤ w6.heap.size := Nat.le_trans hsr hb6.size)
        | (with_reducible refine wpList_push_one rfl (.tmp 52) (.tmp 54) rfl W2.heap.size A5 0 c5 [] ((decV p0.data.toList : Nat) : Int) w6.heap.size rfl rfl rfl HO6.out (by omega) hs6 ?_; intro g5 cap5 w7 hown7 hb7))
      have HO7 := Lib.hid hown7
      have HB7 := Lib.hid (hb.out.trans ((hb6.mono hsr).trans hb7))
      clear hown7 hb7
      go_roundw
      case rel => exact .inr (.inl ⟨rfl, ⟨HD0, HS0⟩, HO7, HB7⟩)
      case measure => simp [intOf]
    · skip
      have hsr := hb.out.size
      have hgsr := (hb.out.block gs hgs).trans HPC.out
      obtain ⟨q0, q1, q2, _, _, _⟩ := tri_cells hgsr
      obtain ⟨A5, c5, rfl, hc5, hc6⟩ := hO.out.len
      replace hO : Hid (OwnI wr W2.heap.size (.slice A5 1 c5) [((decV p0.data.toList : Nat) : Int)]) := hO
      replace hc5 : 1 ≤ c5 := hc5
      by_cases hG : GoodD p1.data.toList
      rotate_left
      · have HF := Lib.hid (goodD_false hG)
        have HT := Lib.hid (HNO.out (fun t t0 t1 e => hG (HPA.out t t0 t1 e).1.2.1))
        go_wp2_with (go_at_call 28; refine (RNUMB_any p1 (by unfold maxLen; omega) _).mono ?_; rintro e w5 ⟨rfl, rfl⟩; rw [HF.out])
        refine bodyPost_ret (v := .tuple #[.int .i64 0, .int .i64 10]) (by simp [results, Tryd.results9, go_sem]) rfl ?_
        unfold TickOut
        exact ⟨(0, 10), rfl, HT.out, HB2.out.trans (hb.out.mono hw02)⟩
      have HGt := Lib.hid (goodD_true hG)
      by_cases hS : p1.size ≤ 10
      rotate_left
      · have HT := Lib.hid (HNO.out (fun t t0 t1 e => hS (by have := (HPA.out t t0 t1 e).2.1.2.1; rw [len_data] at this; omega)))
        go_wp2_with (go_at_call 28; refine (RNUMB_any p1 (by unfold maxLen; omega) _).mono ?_; rintro e w5 ⟨rfl, rfl⟩; rw [HGt.out])
        refine bodyPost_ret (v := .tuple #[.int .i64 0, .int .i64 10]) (by simp [results, Tryd.results9, go_sem]) rfl ?_
        unfold TickOut
        exact ⟨(0, 10), rfl, HT.out, HB2.out.trans (hb.out.mono hw02)⟩
      have HAD : Hid (AllDig p1.data.toList) := hG.1
      have hpos := good_size hG
      have HD1 := Lib.hid hG
      have HS1 := Lib.hid hS
      have hlen9 : ([((decV p0.data.toList : Nat) : Int)] : List Int).length = 1 := rfl
      go_wp2_with (first
        | (go_at_call 28; refine (RNUMB_any p1 (by unfold maxLen; omega) _).mono ?_; rintro e w5 ⟨rfl, rfl⟩; rw [HGt.out])
        | (go_at_call 27; refine (ATOI_any p1 (by omega) hpos HAD _).mono ?_; rintro e w6 ⟨rfl, hb6⟩; have HO6 := Lib.hid (hO.out.below hb6); have hs6 : W2.heap.size ≤ w6.heap.size := Nat.le_trans hsr hb6.size)
        | (with_reducible refine wpList_push_one rfl (.tmp 52) (.tmp 54) rfl W2.heap.size A5 1 c5 [((decV p0.data.toList : Nat) : Int)] ((decV p1.data.toList : Nat) : Int) w6.heap.size rfl rfl rfl HO6.out (by omega) hs6 ?_; intro g5 cap5 w7 hown7 hb7))
      have HO7 := Lib.hid hown7
      have HB7 := Lib.hid (hb.out.trans ((hb6.mono hsr).trans hb7))
      clear hown7 hb7
      go_roundw
      case rel => exact .inr (.inr (.inl ⟨rfl, H0, ⟨HD1, HS1⟩, HO7, HB7⟩))
      case measure => simp [intOf]
    · skip
      have hsr := hb.out.size
      have hgsr := (hb.out.block gs hgs).trans HPC.out
      obtain ⟨q0, q1, q2, _, _, _⟩ := tri_cells hgsr
      obtain ⟨A5, c5, rfl, hc5, hc6⟩ := hO.out.len
      replace hO : Hid (OwnI wr W2.heap.size (.slice A5 2 c5) [((decV p0.data.toList : Nat) : Int), ((decV p1.data.toList : Nat) : Int)]) := hO
      replace hc5 : 2 ≤ c5 := hc5
      by_cases hG : GoodD p2.data.toList
      rotate_left
      · have HF := Lib.hid (goodD_false hG)
        have HT := Lib.hid (HNO.out (fun t t0 t1 e => hG (HPA.out t t0 t1 e).1.2.2))
        go_wp2_with (go_at_call 28; refine (RNUMB_any p2 (by unfold maxLen; omega) _).mono ?_; rintro e w5 ⟨rfl, rfl⟩; rw [HF.out])
        refine bodyPost_ret (v := .tuple #[.int .i64 0, .int .i64 10]) (by simp [results, Tryd.results9, go_sem]) rfl ?_
        unfold TickOut
        exact ⟨(0, 10), rfl, HT.out, HB2.out.trans (hb.out.mono hw02)⟩
      have HGt := Lib.hid (goodD_true hG)
      by_cases hS : p2.size ≤ 10
      rotate_left
      · have HT := Lib.hid (HNO.out (fun t t0 t1 e => hS (by have := (HPA.out t t0 t1 e).2.1.2.2; rw [len_data] at this; omega)))
        go_wp2_with (go_at_call 28; refine (RNUMB_any p2 (by unfold maxLen; omega) _).mono ?_; rintro e w5 ⟨rfl, rfl⟩; rw [HGt.out])
        refine bodyPost_ret (v := .tuple #[.int .i64 0, .int .i64 10]) (by simp [results, Tryd.results9, go_sem]) rfl ?_
        unfold TickOut
        exact ⟨(0, 10), rfl, HT.out, HB2.out.trans (hb.out.mono hw02)⟩
      have HAD : Hid (AllDig p2.data.toList) := hG.1
      have hpos := good_size hG
      have HD2 := Lib.hid hG
      have HS2 := Lib.hid hS
      have hlen9 : ([((decV p0.data.toList : Nat) : Int), ((decV p1.data.toList : Nat) : Int)] : List Int).length = 2 := rfl
      go_wp2_with (first
        | (go_at_call 28; refine (RNUMB_any p2 (by unfold maxLen; omega) _).mono ?_; rintro e w5 ⟨rfl, rfl⟩; rw [HGt.out])
        | (go_at_call 27; refine (ATOI_any p2 (by omega) hpos HAD _).mono ?_; rintro e w6 ⟨rfl, hb6⟩; have HO6 := Lib.hid (hO.out.below hb6); have hs6 : W2.heap.size ≤ w6.heap.size := Nat.le_trans hsr hb6.size)
        | (with_reducible refine wpList_push_one rfl (.tmp 52) (.tmp 54) rfl W2.heap.size A5 2 c5 [((decV p0.data.toList : Nat) : Int), ((decV p1.data.toList : Nat) : Int)] ((decV p2.data.toList : Nat) : Int) w6.heap.size rfl rfl rfl HO6.out (by omega) hs6 ?_; intro g5 cap5 w7 hown7 hb7))
      have HO7 := Lib.hid hown7
      have HB7 := Lib.hid (hb.out.trans ((hb6.mono hsr).trans hb7))
      clear hown7 hb7
      go_roundw
      case rel => exact .inr (.inr (.inr ⟨rfl, H0, H1, ⟨HD2, HS2⟩, HO7, HB7⟩))
      case measure => simp [intOf]
    · obtain ⟨g5, cap5, e5, hg5, hg5w, _, _, hcel⟩ := hO.out.slot (by simp)
      change _ = Value.slice (some ⟨g5, 0, none⟩) 3 cap5 at e5
      subst e5
      have hcA := Lib.hid hcel
      clear hcel
      obtain ⟨d0, hd0⟩ : ∃ d : Nat, decV p0.data.toList = d := ⟨_, rfl⟩
      obtain ⟨d1, hd1⟩ : ∃ d : Nat, decV p1.data.toList = d := ⟨_, rfl⟩
      obtain ⟨d2, hd2⟩ : ∃ d : Nat, decV p2.data.toList = d := ⟨_, rfl⟩
      have hlt0 := decV_lt 10 p0.data.toList (by rw [len_data]; exact H0.2.out) H0.1.out.1
      have hlt1 := decV_lt 10 p1.data.toList (by rw [len_data]; exact H1.2.out) H1.1.out.1
      have hlt2 := decV_lt 10 p2.data.toList (by rw [len_data]; exact H2.2.out) H2.1.out.1
      rw [hd0] at hlt0
      rw [hd1] at hlt1
      rw [hd2] at hlt2
      have HD0 := Lib.hid hd0
      have HD1 := Lib.hid hd1
      have HD2 := Lib.hid hd2
      have hl0 : (d0 : Int) < 10000000000 := by omega
      have hl1 : (d1 : Int) < 10000000000 := by omega
      have hl2 : (d2 : Int) < 10000000000 := by omega
      have hp0 : (0 : Int) ≤ (d0 : Int) := by omega
      have hp1 : (0 : Int) ≤ (d1 : Int) := by omega
      have hp2 : (0 : Int) ≤ (d2 : Int) := by omega
      obtain ⟨V, rfl⟩ : ∃ x : World, x = wr := ⟨_, rfl⟩
      have hsV := hb.out.size
      have hBV : B ≤ V.heap.size := by omega
      have hgxV : gx < V.heap.size := by omega
      have hc0 : V.cell? ⟨g5, 0, none⟩ = some (.int .i64 d0) := by have h := (hcA.out 0 (by simp)).1; rw [← hd0]; exact h
      have hc1 : V.cell? ⟨g5, 1, none⟩ = some (.int .i64 d1) := by have h := (hcA.out 1 (by simp)).1; rw [← hd1]; exact h
      have hc2 : V.cell? ⟨g5, 2, none⟩ = some (.int .i64 d2) := by have h := (hcA.out 2 (by simp)).1; rw [← hd2]; exact h
      have HCV : Hid (V.cell? ⟨g5, 0, none⟩ = some (.int .i64 d0) ∧ V.cell? ⟨g5, 1, none⟩ = some (.int .i64 d1) ∧ V.cell? ⟨g5, 2, none⟩ = some (.int .i64 d2)) := ⟨hc0, hc1, hc2⟩
      have HXV : Hid (V.cell? ⟨gx, 0, none⟩ = some (.slice A n c) ∧ V.cell? ⟨gx, 1, none⟩ = some (.slice A' n' c')) := ⟨(hb.out.cell (p := ⟨gx, 0, none⟩) hg2).trans HC2.out.1, (hb.out.cell (p := ⟨gx, 1, none⟩) hg2).trans HC2.out.2⟩
      have hh4' : Hid (PrsAt V B A' n' ms) := hh2'.out.below hb.out hBw2
      have hnl : n' ≤ 200 := by rw [← hl'.out]; exact HM.out.few
      have hpos : 0 < n' := by rw [← hl'.out]; exact HM.out.pos
      obtain ⟨b, hb9⟩ : ∃ b, (d0 : Int) - 1 = b := ⟨_, rfl⟩
      have HBD := Lib.hid hb9
      clear hlt0 hlt1 hlt2 hd0 hd1 hd2 hc0 hc1 hc2
      go_upto_block 2 with (fail)
      go_cut [12] (fun v wx => ∃ k : Nat, v = .int .i64 k ∧ Hid (k < n' ∧ (0 < k → (prOf ms k).1 ≤ b) ∧ (k + 1 < n' → b < (prOf ms (k + 1)).1)) ∧ Hid (Below V.heap.size V wx))
      case first =>
        go_wp2_with fail
        go_loopw [12] (fun v wr => ∃ k : Nat, k < n' ∧ v = .int .i64 k ∧ Hid (0 < k → (prOf ms k).1 ≤ b) ∧ Hid (Below V.heap.size V wr)) (fun v _ => n' - (intOf v).toNat)
        case atStart => exact ⟨0, hpos, rfl, fun h => absurd h (by decide), Below.refl _ _⟩
        case round =>
          obtain ⟨k, hk, rfl, HL, hbr⟩ := hrel
          have hsr := hbr.out.size
          have hk0 : (0 : Int) ≤ (k : Int) := by omega
          have hx1 := (hbr.out.cell (p := ⟨gx, 1, none⟩) hgxV).trans HXV.out.2
          have hg5V : g5 < V.heap.size := hg5w
          have hc0 := (hbr.out.cell (p := ⟨g5, 0, none⟩) hg5V).trans HCV.out.1
          have kw1 : IntKind.i64.wrap ((k : Int) + 1) = (k : Int) + 1 := IntWalk.i64_in _ (by omega)
          by_cases hk1 : k + 1 < n'
          · obtain ⟨b9, o9, rfl, hb9A, q1, _⟩ := (hh4'.out.below hbr.out hBV).2 (k + 1) hk1
            have hb9r : b9 < wr.heap.size := by omega
            have hkt : decide ((k : Int) + 1 < (n' : Int)) = true := by simp; omega
            obtain ⟨q, hq⟩ : ∃ q, (prOf ms (k + 1)).1 = q := ⟨_, rfl⟩
            have HQ9 := Lib.hid hq
            rw [hq] at q1
            have q1' : wr.cell? ⟨b9, o9 + (k + 1) * 2, none⟩ = some (.int .i64 q) := q1
            have kw2 : (0 : Int) ≤ (k : Int) + 1 := by omega
            have kw3 : ((k : Int) + 1).toNat = k + 1 := by omega
            have kw4 : IntKind.i64.wrap ((d0 : Int) - 1) = b := by rw [hb9]; exact IntWalk.i64_in _ (by omega)
            have hkI : (k : Int) + 1 < (n' : Int) := by omega
            clear hq q1 hb9
            by_cases hle : q ≤ b
            · have hlt : decide (q ≤ b) = true := decide_eq_true hle
              have HL2 : Hid (0 < k + 1 → (prOf ms (k + 1)).1 ≤ b) := fun _ => by rw [HQ9.out]; exact hle
              clear hle
              go_upto_region 16 with (fail)
              go_quiet (fail)
              clear kw1 kw2 kw3 kw4
              have HB2 := Lib.hid (belowN hbr.out nq)
              go_wp2_with fail
              go_roundw
              case rel => exact ⟨k + 1, hk1, by go_num, HL2, HB2⟩
              case measure => simp [intOf]; omega
            · have hlt : decide (q ≤ b) = false := decide_eq_false hle
              have HI : Hid (k < n' ∧ (0 < k → (prOf ms k).1 ≤ b) ∧ (k + 1 < n' → b < (prOf ms (k + 1)).1)) := ⟨hk, HL.out, fun _ => by rw [HQ9.out]; omega⟩
              clear hle
              go_upto_region 16 with (fail)
              go_quiet (fail)
              clear kw1 kw2 kw3 kw4
              have HB2 := Lib.hid (belowN hbr.out nq)
              go_wp2_with fail
              go_meet
              exact ⟨k, rfl, HI, HB2⟩
          · have hkf : decide ((k : Int) + 1 < (n' : Int)) = false := by simp; omega
            have HI : Hid (k < n' ∧ (0 < k → (prOf ms k).1 ≤ b) ∧ (k + 1 < n' → b < (prOf ms (k + 1)).1)) := ⟨hk, HL.out, fun h => absurd h hk1⟩
            clear hb9
            go_upto_region 16 with (fail)
            go_quiet (fail)
            clear kw1
            have HB2 := Lib.hid (belowN hbr.out nq)
            go_wp2_with fail
            go_meet
            exact ⟨k, rfl, HI, HB2⟩
      case rest =>
      obtain ⟨k, rfl, HK, HBV⟩ := hcut
      obtain ⟨X, rfl⟩ : ∃ x : World, x = wc := ⟨_, rfl⟩
      have hsX := HBV.out.size
      obtain ⟨hkn, hk1, hk2⟩ := HK.out
      have hx0 := (HBV.out.cell (p := ⟨gx, 0, none⟩) hgxV).trans HXV.out.1
      have hx1 := (HBV.out.cell (p := ⟨gx, 1, none⟩) hgxV).trans HXV.out.2
      have hc0 := (HBV.out.cell (p := ⟨g5, 0, none⟩) hg5w).trans HCV.out.1
      have hc1 := (HBV.out.cell (p := ⟨g5, 1, none⟩) hg5w).trans HCV.out.2.1
      have hc2 := (HBV.out.cell (p := ⟨g5, 2, none⟩) hg5w).trans HCV.out.2.2
      have hh5 : Hid (PrsAt X B A n l) := hh2.out.below (hb.out.trans (HBV.out.mono hsV)) hBw2
      have hh5' : Hid (PrsAt X B A' n' ms) := hh4'.out.below HBV.out hBV
      have hB5 : B ≤ X.heap.size := by omega
      have HBX := Lib.hid (HB2.out.trans ((hb.out.trans (HBV.out.mono hsV)).mono hw02))
      obtain ⟨bA, oA, rfl, hbA, k1, k2⟩ := hh5'.out.2 k hkn
      have hkl : k < ms.length := by rw [hl'.out]; exact hkn
      obtain ⟨⟨a1, a2⟩, m1, m2⟩ := HM.out.rng k hkl
      have hz0' := beg_nonneg HM.out hkl
      have hz1' := beg_le HM.out hkl
      have HTT : Hid (∀ t : Int, 0 ≤ t → t ≤ 1000000000 → barTxt ms t = s.data.toList → tickAtK ms k d0 d1 d2 = t) := fun t t0 t1 e => by
        have h := HPA.out t t0 t1 e
        have h4 := h.2.2.2.1 k hkl
        have h5 := h.2.2.2.2
        rw [HD0.out] at h4 h5
        rw [HD1.out, HD2.out] at h4
        refine h4 ?_ (fun hk9 => ?_)
        · by_cases q : 0 < k
          · have := hk1 q; omega
          · obtain rfl : k = 0 := by omega
            rw [HM.out.zero]; omega
        · have := hk2 (by rw [← hl'.out]; exact hk9); omega
      unfold tickAtK at HTT
      obtain ⟨bz, hbz⟩ : ∃ z, begZ ms k = z := ⟨_, rfl⟩
      have HBZ := Lib.hid hbz
      rw [hbz] at HTT hz0' hz1'
      obtain ⟨p, hp⟩ : ∃ p, prOf ms k = p := ⟨_, rfl⟩
      obtain ⟨a, mm⟩ := p
      rw [hp] at k1 k2 a1 a2 m1 m2 hz1' HTT
      dsimp only at k1 k2 a1 a2 m1 m2 hz1' HTT
      rw [hb9] at HTT
      have hq1 : (b - a) * mm ≤ 10000000000 * mm := Int.mul_le_mul_of_nonneg_right (by omega) (by omega)
      have hq2 : (-1000000001) * mm ≤ (b - a) * mm := Int.mul_le_mul_of_nonneg_right (by omega) (by omega)
      obtain ⟨Z, hZ⟩ : ∃ Z, (b - a) * mm = Z := ⟨_, rfl⟩
      rw [hZ] at HTT hq1 hq2
      have kw1 : IntKind.i64.wrap ((d0 : Int) - 1) = b := by rw [hb9]; exact IntWalk.i64_in _ (by omega)
      have kw2 : IntKind.i64.wrap (b - a) = b - a := IntWalk.i64_in _ (by omega)
      have kw3 : IntKind.i64.wrap ((b - a) * mm) = Z := by rw [hZ]; exact IntWalk.i64_in _ (by omega)
      have kw4 : IntKind.i64.wrap (Z * 960) = Z * 960 := IntWalk.i64_in _ (by omega)
      have kw5 : IntKind.i64.wrap (bz + Z * 960) = bz + Z * 960 := IntWalk.i64_in _ (by omega)
      have kw6 : IntKind.i64.wrap ((d1 : Int) - 1) = (d1 : Int) - 1 := IntWalk.i64_in _ (by omega)
      have kw7 : IntKind.i64.wrap (((d1 : Int) - 1) * 960) = ((d1 : Int) - 1) * 960 := IntWalk.i64_in _ (by omega)
      have kw8 : IntKind.i64.wrap (bz + Z * 960 + ((d1 : Int) - 1) * 960) = bz + Z * 960 + ((d1 : Int) - 1) * 960 := IntWalk.i64_in _ (by omega)
      obtain ⟨T, hT⟩ : ∃ T, bz + Z * 960 + ((d1 : Int) - 1) * 960 + d2 = T := ⟨_, rfl⟩
      rw [hT] at HTT
      have kw9 : IntKind.i64.wrap (bz + Z * 960 + ((d1 : Int) - 1) * 960 + d2) = T := by rw [hT]; exact IntWalk.i64_in _ (by omega)
      have hkI : (k : Int) < (n' : Int) := by omega
      have hk0 : (0 : Int) ≤ (k : Int) := by omega
      have hbX : bA < X.heap.size := by omega
      have hgX : gx < X.heap.size := by omega
      have hg5X : g5 < X.heap.size := by omega
      clear hb9 hbz hp hZ hT hq1 hq2 hk1 hk2 hz0' hz1' a1 a2 m1 m2
      go_upto_region 18 with (fail)
      refine wp_region_text 33 (fun x9 => x9.cell? ⟨gx, 0, none⟩ = some (.slice A n c) ∧ x9.cell? ⟨gx, 1, none⟩ = some (.slice (some ⟨bA, oA, none⟩) n' c') ∧ x9.cell? ⟨bA, oA + k * 2, none⟩ = some (.int .i64 a) ∧ x9.cell? ⟨bA, oA + k * 2 + 1, none⟩ = some (.int .i64 mm) ∧ x9.cell? ⟨g5, 0, none⟩ = some (.int .i64 d0) ∧ x9.cell? ⟨g5, 1, none⟩ = some (.int .i64 d1) ∧ x9.cell? ⟨g5, 2, none⟩ = some (.int .i64 d2)) (by kernel_rfl) (by kernel_rfl) ?_
      obtain ⟨wc, hwc⟩ : ∃ x : World, x = X.drew := ⟨_, rfl⟩
      have HBc : Hid (Below X.heap.size X wc) := by show Below _ _ _; rw [hwc]; exact (Below.refl _ _).drew
      have hS : wc.cell? ⟨gx, 0, none⟩ = some (.slice A n c) ∧ wc.cell? ⟨gx, 1, none⟩ = some (.slice (some ⟨bA, oA, none⟩) n' c') ∧ wc.cell? ⟨bA, oA + k * 2, none⟩ = some (.int .i64 a) ∧ wc.cell? ⟨bA, oA + k * 2 + 1, none⟩ = some (.int .i64 mm) ∧ wc.cell? ⟨g5, 0, none⟩ = some (.int .i64 d0) ∧ wc.cell? ⟨g5, 1, none⟩ = some (.int .i64 d1) ∧ wc.cell? ⟨g5, 2, none⟩ = some (.int .i64 d2) := by rw [hwc]; exact ⟨hx0, hx1, k1, k2, hc0, hc1, hc2⟩
      rw [← hwc]
      clear hwc hx0 hx1 k1 k2 hc0 hc1 hc2
      refine HT.load (i := 0) (oi := _) (v := ?_) rfl (by kernel_rfl) (by kernel_rfl) (by decide) (fun _ _ _ h => h) (by kernel_rfl) (Or.inl ⟨by rfl, ?_⟩) hS ?_
      rotate_left
      · intro wz hwz
        try dsimp only at hwz
        go_simp
        try with_reducible rfl
      simp only [List.getElem_toArray, List.getElem_cons_succ, List.getElem_cons_zero, Act.put, List.setIfInBounds_toArray, List.set_cons_zero, List.set_cons_succ]
      refine HT.take (i := 1) (oi := _) (v := ?_) rfl (by kernel_rfl) (by kernel_rfl) (by decide) (fun _ _ _ h => h) (Or.inl ⟨by rfl, ?_⟩) hS ?_
      rotate_left
      · intro wz
        go_simp
        try with_reducible rfl
      simp only [List.getElem_toArray, List.getElem_cons_succ, List.getElem_cons_zero, Act.put, List.setIfInBounds_toArray, List.set_cons_zero, List.set_cons_succ]
      refine HT.take (i := 3) (oi := _) (v := ?_) rfl (by kernel_rfl) (by kernel_rfl) (by decide) (fun _ _ _ h => h) (Or.inl ⟨by rfl, ?_⟩) hS ?_
      rotate_left
      · intro wz
        go_simp
        try with_reducible rfl
      simp only [List.getElem_toArray, List.getElem_cons_succ, List.getElem_cons_zero, Act.put, List.setIfInBounds_toArray, List.set_cons_zero, List.set_cons_succ]
      refine HT.take (i := 4) (oi := _) (v := ?_) rfl (by kernel_rfl) (by kernel_rfl) (by decide) (fun _ _ _ h => h) (Or.inl ⟨by rfl, ?_⟩) hS ?_
      rotate_left
      · intro wz
        go_simp
        try with_reducible rfl
      simp only [List.getElem_toArray, List.getElem_cons_succ, List.getElem_cons_zero, Act.put, List.setIfInBounds_toArray, List.set_cons_zero, List.set_cons_succ]
      refine HT.load (i := 5) (oi := _) (v := ?_) rfl (by kernel_rfl) (by kernel_rfl) (by decide) (fun _ _ _ h => h) (by kernel_rfl) (Or.inl ⟨by rfl, ?_⟩) hS ?_
      rotate_left
      · intro wz hwz
        try dsimp only at hwz
        go_simp
        try with_reducible rfl
      simp only [List.getElem_toArray, List.getElem_cons_succ, List.getElem_cons_zero, Act.put, List.setIfInBounds_toArray, List.set_cons_zero, List.set_cons_succ]
      refine HT.take (i := 6) (oi := _) (v := ?_) rfl (by kernel_rfl) (by kernel_rfl) (by decide) (fun _ _ _ h => h) (Or.inl ⟨by rfl, ?_⟩) hS ?_
      rotate_left
      · intro wz
        go_simp
        try with_reducible rfl
      simp only [List.getElem_toArray, List.getElem_cons_succ, List.getElem_cons_zero, Act.put, List.setIfInBounds_toArray, List.set_cons_zero, List.set_cons_succ]
      refine HT.take (i := 7) (oi := _) (v := ?_) rfl (by kernel_rfl) (by kernel_rfl) (by decide) (fun _ _ _ h => h) (Or.inl ⟨by rfl, ?_⟩) hS ?_
      rotate_left
      · intro wz
        go_simp
        try with_reducible rfl
      simp only [List.getElem_toArray, List.getElem_cons_succ, List.getElem_cons_zero, Act.put, List.setIfInBounds_toArray, List.set_cons_zero, List.set_cons_succ]
      refine HT.load (i := 8) (oi := _) (v := ?_) rfl (by kernel_rfl) (by kernel_rfl) (by decide) (fun _ _ _ h => h) (by kernel_rfl) (Or.inl ⟨by rfl, ?_⟩) hS ?_
      rotate_left
      · intro wz hwz
        try dsimp only at hwz
        go_simp
        try with_reducible rfl
      simp only [List.getElem_toArray, List.getElem_cons_succ, List.getElem_cons_zero, Act.put, List.setIfInBounds_toArray, List.set_cons_zero, List.set_cons_succ]
      refine HT.take (i := 9) (oi := _) (v := ?_) rfl (by kernel_rfl) (by kernel_rfl) (by decide) (fun _ _ _ h => h) (Or.inl ⟨by rfl, ?_⟩) hS ?_
      rotate_left
      · intro wz
        go_simp
        try with_reducible rfl
      simp only [List.getElem_toArray, List.getElem_cons_succ, List.getElem_cons_zero, Act.put, List.setIfInBounds_toArray, List.set_cons_zero, List.set_cons_succ]
      refine HT.take (i := 10) (oi := _) (v := ?_) rfl (by kernel_rfl) (by kernel_rfl) (by decide) (fun _ _ _ h => h) (Or.inl ⟨by rfl, ?_⟩) hS ?_
      rotate_left
      · intro wz
        go_simp
        try with_reducible rfl
      simp only [List.getElem_toArray, List.getElem_cons_succ, List.getElem_cons_zero, Act.put, List.setIfInBounds_toArray, List.set_cons_zero, List.set_cons_succ]
      refine HT.take (i := 11) (oi := _) (v := ?_) rfl (by kernel_rfl) (by kernel_rfl) (by decide) (fun _ _ _ h => h) (Or.inl ⟨by rfl, ?_⟩) hS ?_
      rotate_left
      · intro wz
        go_simp
        try with_reducible rfl
      simp only [List.getElem_toArray, List.getElem_cons_succ, List.getElem_cons_zero, Act.put, List.setIfInBounds_toArray, List.set_cons_zero, List.set_cons_succ]
      refine HT.load (i := 12) (oi := _) (v := ?_) rfl (by kernel_rfl) (by kernel_rfl) (by decide) (fun _ _ _ h => h) (by kernel_rfl) (Or.inl ⟨by rfl, ?_⟩) hS ?_
      rotate_left
      · intro wz hwz
        try dsimp only at hwz
        go_simp
        try with_reducible rfl
      simp only [List.getElem_toArray, List.getElem_cons_succ, List.getElem_cons_zero, Act.put, List.setIfInBounds_toArray, List.set_cons_zero, List.set_cons_succ]
      refine HT.take (i := 13) (oi := _) (v := ?_) rfl (by kernel_rfl) (by kernel_rfl) (by decide) (fun _ _ _ h => h) (Or.inl ⟨by rfl, ?_⟩) hS ?_
      rotate_left
      · intro wz
        go_simp
        try with_reducible rfl
      simp only [List.getElem_toArray, List.getElem_cons_succ, List.getElem_cons_zero, Act.put, List.setIfInBounds_toArray, List.set_cons_zero, List.set_cons_succ]
      refine HT.take (i := 14) (oi := _) (v := ?_) rfl (by kernel_rfl) (by kernel_rfl) (by decide) (fun _ _ _ h => h) (Or.inl ⟨by rfl, ?_⟩) hS ?_
      rotate_left
      · intro wz
        go_simp
        try with_reducible rfl
      simp only [List.getElem_toArray, List.getElem_cons_succ, List.getElem_cons_zero, Act.put, List.setIfInBounds_toArray, List.set_cons_zero, List.set_cons_succ]
      refine HT.load (i := 15) (oi := _) (v := ?_) rfl (by kernel_rfl) (by kernel_rfl) (by decide) (fun _ _ _ h => h) (by kernel_rfl) (Or.inl ⟨by rfl, ?_⟩) hS ?_
      rotate_left
      · intro wz hwz
        try dsimp only at hwz
        go_simp
        try with_reducible rfl
      simp only [List.getElem_toArray, List.getElem_cons_succ, List.getElem_cons_zero, Act.put, List.setIfInBounds_toArray, List.set_cons_zero, List.set_cons_succ]
      refine HT.take (i := 16) (oi := _) (v := ?_) rfl (by kernel_rfl) (by kernel_rfl) (by decide) (fun _ _ _ h => h) (Or.inl ⟨by rfl, ?_⟩) hS ?_
      rotate_left
      · intro wz
        go_simp
        try with_reducible rfl
      simp only [List.getElem_toArray, List.getElem_cons_succ, List.getElem_cons_zero, Act.put, List.setIfInBounds_toArray, List.set_cons_zero, List.set_cons_succ]
      refine HT.take (i := 17) (oi := _) (v := ?_) rfl (by kernel_rfl) (by kernel_rfl) (by decide) (fun _ _ _ h => h) (Or.inl ⟨by rfl, ?_⟩) hS ?_
      rotate_left
      · intro wz
        go_simp
        try with_reducible rfl
      simp only [List.getElem_toArray, List.getElem_cons_succ, List.getElem_cons_zero, Act.put, List.setIfInBounds_toArray, List.set_cons_zero, List.set_cons_succ]
      refine HT.take (i := 18) (oi := _) (v := ?_) rfl (by kernel_rfl) (by kernel_rfl) (by decide) (fun _ _ _ h => h) (Or.inl ⟨by rfl, ?_⟩) hS ?_
      rotate_left
      · intro wz
        go_simp
        try with_reducible rfl
      simp only [List.getElem_toArray, List.getElem_cons_succ, List.getElem_cons_zero, Act.put, List.setIfInBounds_toArray, List.set_cons_zero, List.set_cons_succ]
      refine HT.load (i := 19) (oi := _) (v := ?_) rfl (by kernel_rfl) (by kernel_rfl) (by decide) (fun _ _ _ h => h) (by kernel_rfl) (Or.inl ⟨by rfl, ?_⟩) hS ?_
      rotate_left
      · intro wz hwz
        try dsimp only at hwz
        go_simp
        try with_reducible rfl
      simp only [List.getElem_toArray, List.getElem_cons_succ, List.getElem_cons_zero, Act.put, List.setIfInBounds_toArray, List.set_cons_zero, List.set_cons_succ]
      refine HT.take (i := 20) (oi := _) (v := ?_) rfl (by kernel_rfl) (by kernel_rfl) (by decide) (fun _ _ _ h => h) (Or.inl ⟨by rfl, ?_⟩) hS ?_
      rotate_left
      · intro wz
        go_simp
        try with_reducible rfl
      simp only [List.getElem_toArray, List.getElem_cons_succ, List.getElem_cons_zero, Act.put, List.setIfInBounds_toArray, List.set_cons_zero, List.set_cons_succ]
      refine HT.take (i := 21) (oi := _) (v := ?_) rfl (by kernel_rfl) (by kernel_rfl) (by decide) (fun _ _ _ h => h) (Or.inl ⟨by rfl, ?_⟩) hS ?_
      rotate_left
      · intro wz
        go_simp
        try with_reducible rfl
      simp only [List.getElem_toArray, List.getElem_cons_succ, List.getElem_cons_zero, Act.put, List.setIfInBounds_toArray, List.set_cons_zero, List.set_cons_succ]
      refine HT.take (i := 23) (oi := _) (v := ?_) rfl (by kernel_rfl) (by kernel_rfl) (by decide) (fun _ _ _ h => h) (Or.inl ⟨by rfl, ?_⟩) hS ?_
      rotate_left
      · intro wz
        go_simp
        try with_reducible rfl
      simp only [List.getElem_toArray, List.getElem_cons_succ, List.getElem_cons_zero, Act.put, List.setIfInBounds_toArray, List.set_cons_zero, List.set_cons_succ]
      refine HT.take (i := 24) (oi := _) (v := ?_) rfl (by kernel_rfl) (by kernel_rfl) (by decide) (fun _ _ _ h => h) (Or.inl ⟨by rfl, ?_⟩) hS ?_
      rotate_left
      · intro wz
        go_simp
        try with_reducible rfl
      simp only [List.getElem_toArray, List.getElem_cons_succ, List.getElem_cons_zero, Act.put, List.setIfInBounds_toArray, List.set_cons_zero, List.set_cons_succ]
      refine HT.load (i := 25) (oi := _) (v := ?_) rfl (by kernel_rfl) (by kernel_rfl) (by decide) (fun _ _ _ h => h) (by kernel_rfl) (Or.inl ⟨by rfl, ?_⟩) hS ?_
      rotate_left
      · intro wz hwz
        try dsimp only at hwz
        go_simp
        try with_reducible rfl
      simp only [List.getElem_toArray, List.getElem_cons_succ, List.getElem_cons_zero, Act.put, List.setIfInBounds_toArray, List.set_cons_zero, List.set_cons_succ]
      refine HT.take (i := 26) (oi := _) (v := ?_) rfl (by kernel_rfl) (by kernel_rfl) (by decide) (fun _ _ _ h => h) (Or.inl ⟨by rfl, ?_⟩) hS ?_
      rotate_left
      · intro wz
        go_simp
        try with_reducible rfl
      simp only [List.getElem_toArray, List.getElem_cons_succ, List.getElem_cons_zero, Act.put, List.setIfInBounds_toArray, List.set_cons_zero, List.set_cons_succ]
      refine HT.take (i := 27) (oi := _) (v := ?_) rfl (by kernel_rfl) (by kernel_rfl) (by decide) (fun _ _ _ h => h) (Or.inl ⟨by rfl, ?_⟩) hS ?_
      rotate_left
      · intro wz
        go_simp
        try with_reducible rfl
      simp only [List.getElem_toArray, List.getElem_cons_succ, List.getElem_cons_zero, Act.put, List.setIfInBounds_toArray, List.set_cons_zero, List.set_cons_succ]
      refine HT.take (i := 29) (oi := _) (v := ?_) rfl (by kernel_rfl) (by kernel_rfl) (by decide) (fun _ _ _ h => h) (Or.inl ⟨by rfl, ?_⟩) hS ?_
      rotate_left
      · intro wz
        go_simp
        try with_reducible rfl
      simp only [List.getElem_toArray, List.getElem_cons_succ, List.getElem_cons_zero, Act.put, List.setIfInBounds_toArray, List.set_cons_zero, List.set_cons_succ]
      refine HT.take (i := 30) (oi := _) (v := ?_) rfl (by kernel_rfl) (by kernel_rfl) (by decide) (fun _ _ _ h => h) (Or.inl ⟨by rfl, ?_⟩) hS ?_
      rotate_left
      · intro wz
        go_simp
        try with_reducible rfl
      simp only [List.getElem_toArray, List.getElem_cons_succ, List.getElem_cons_zero, Act.put, List.setIfInBounds_toArray, List.set_cons_zero, List.set_cons_succ]
      refine HT.load (i := 31) (oi := _) (v := ?_) rfl (by kernel_rfl) (by kernel_rfl) (by decide) (fun _ _ _ h => h) (by kernel_rfl) (Or.inl ⟨by rfl, ?_⟩) hS ?_
      rotate_left
      · intro wz hwz
        try dsimp only at hwz
        go_simp
        try with_reducible rfl
      simp only [List.getElem_toArray, List.getElem_cons_succ, List.getElem_cons_zero, Act.put, List.setIfInBounds_toArray, List.set_cons_zero, List.set_cons_succ]
      refine HT.one (i := 2) (o := _) rfl (by kernel_rfl) (by decide) (by rfl) ?_
      intro K hK
      go_simp
      refine (RBEGIN_any _ _ n c n' c' ms HM k _ B (Nat.le_trans hB5 HBc.out.size) hkn (Lib.hid (hh5'.out.below HBc.out hB5))).mono ?_
      rw [HBZ.out]
      rintro e9 wn ⟨rfl, hbn⟩
      have HBn := Lib.hid (HBc.out.trans (hbn.mono HBc.out.size))
      have hSn : wn.cell? ⟨gx, 0, none⟩ = some (.slice A n c) ∧ wn.cell? ⟨gx, 1, none⟩ = some (.slice (some ⟨bA, oA, none⟩) n' c') ∧ wn.cell? ⟨bA, oA + k * 2, none⟩ = some (.int .i64 a) ∧ wn.cell? ⟨bA, oA + k * 2 + 1, none⟩ = some (.int .i64 mm) ∧ wn.cell? ⟨g5, 0, none⟩ = some (.int .i64 d0) ∧ wn.cell? ⟨g5, 1, none⟩ = some (.int .i64 d1) ∧ wn.cell? ⟨g5, 2, none⟩ = some (.int .i64 d2) := by
        have z1 := HBc.out.size
        obtain ⟨e0, e1, e2, e3, e4, e5, e6⟩ := hS
        exact ⟨(hbn.cell (p := ⟨gx, 0, none⟩) (by show gx < _; omega)).trans e0, (hbn.cell (p := ⟨gx, 1, none⟩) (by show gx < _; omega)).trans e1, (hbn.cell (p := ⟨bA, oA + k * 2, none⟩) (by show bA < _; omega)).trans e2, (hbn.cell (p := ⟨bA, oA + k * 2 + 1, none⟩) (by show bA < _; omega)).trans e3, (hbn.cell (p := ⟨g5, 0, none⟩) (by show g5 < _; omega)).trans e4, (hbn.cell (p := ⟨g5, 1, none⟩) (by show g5 < _; omega)).trans e5, (hbn.cell (p := ⟨g5, 2, none⟩) (by show g5 < _; omega)).trans e6⟩
      refine hK.out _ _ hSn ?_
      clear hK K hS HBc
      try simp only [List.getElem_toArray, List.getElem_cons_succ, List.getElem_cons_zero, Act.put, List.setIfInBounds_toArray, List.set_cons_zero, List.set_cons_succ]
      have hS := hSn
      have HBc := HBn
      clear hSn HBn hbn
      obtain ⟨wc, rfl⟩ : ∃ x : World, x = wn := ⟨_, rfl⟩
      refine HT.take (i := 22) (oi := _) (v := ?_) rfl (by kernel_rfl) (by kernel_rfl) (by decide) (fun _ _ _ h => h) (Or.inl ⟨by rfl, ?_⟩) hS ?_
      rotate_left
      · intro wz
        go_simp
        try with_reducible rfl
      simp only [List.getElem_toArray, List.getElem_cons_succ, List.getElem_cons_zero, Act.put, List.setIfInBounds_toArray, List.set_cons_zero, List.set_cons_succ]
      refine HT.take (i := 28) (oi := _) (v := ?_) rfl (by kernel_rfl) (by kernel_rfl) (by decide) (fun _ _ _ h => h) (Or.inl ⟨by rfl, ?_⟩) hS ?_
      rotate_left
      · intro wz
        go_simp
        try with_reducible rfl
      simp only [List.getElem_toArray, List.getElem_cons_succ, List.getElem_cons_zero, Act.put, List.setIfInBounds_toArray, List.set_cons_zero, List.set_cons_succ]
      refine HT.take (i := 32) (oi := _) (v := ?_) rfl (by kernel_rfl) (by kernel_rfl) (by decide) (fun _ _ _ h => h) (Or.inl ⟨by rfl, ?_⟩) hS ?_
      rotate_left
      · intro wz
        go_simp
        try with_reducible rfl
      simp only [List.getElem_toArray, List.getElem_cons_succ, List.getElem_cons_zero, Act.put, List.setIfInBounds_toArray, List.set_cons_zero, List.set_cons_succ]
      obtain ⟨hx0, hx1, _⟩ := id hS
      refine HT.done (by kernel_rfl) ?_
      clear hS
      simp only [List.drop_succ_cons, List.drop_zero]
      clear kw1 kw2 kw3 kw4 kw5 kw6 kw7 kw8 kw9
      have HBC := Lib.hid (HBX.out.trans (HBc.out.mono HBX.out.size))
      have hB6 : B ≤ wc.heap.size := Nat.le_trans hB5 HBc.out.size
      have hh6 : Hid (PrsAt wc B A n l) := hh5.out.below HBc.out hB5
      have hh6' : Hid (PrsAt wc B (some ⟨bA, oA, none⟩) n' ms) := hh5'.out.below HBc.out hB5
      have ht6 : Hid (TabAt wc) := ht.out.below HBC.out
      by_cases hTr : T < 0 ∨ 1000000000 < T
      · have HT := Lib.hid (HNO.out (fun t t0 t1 e => by have := HTT.out t t0 t1 e; omega))
        have HBS : Hid (barS l ms T = ([], 1)) := by show _ = _; unfold barS; rw [HX.out, if_neg (by simp), if_pos hTr]
        go_wp2_with (go_at_call 7; refine (RBAROF_any _ _ n c n' c' l ms T _ ht6 B hB6 hh6 hh6').mono ?_; rw [HBS.out]; rintro e w7 ⟨z, rfl, hz, hb7⟩)
        refine bodyPost_ret (v := .tuple #[.int .i64 0, .int .i64 10]) (by simp [results, Tryd.results9, go_sem]) rfl ?_
        unfold TickOut
        exact ⟨(0, 10), rfl, HT.out, HBC.out.trans (hb7.mono HBC.out.size)⟩
      have HBS : Hid (barS l ms T = (barTxt ms T, 0)) := by show _ = _; unfold barS; rw [HX.out, if_neg (by simp), if_neg hTr]
      go_upto_region 20 with (go_at_call 7; refine (RBAROF_any _ _ n c n' c' l ms T _ ht6 B hB6 hh6 hh6').mono ?_; rw [HBS.out]; rintro e w7 ⟨z, rfl, hz, hb7⟩)
      have HZ : Hid (z.data.toList = barTxt ms T) := hz
      have HB7 := Lib.hid (HBC.out.trans (hb7.mono HBC.out.size))
      clear hz hb7
      by_cases hzs : z = s
      · subst hzs
        have HT := Lib.hid (HTS.out (T, 0) (.inl ⟨rfl, ⟨by omega, by omega⟩, HZ.out.symm⟩))
        go_wp2_with fail
        refine bodyPost_ret (v := .tuple #[.int .i64 T, .int .i64 0]) (by simp [results, Tryd.results9, go_sem]) rfl ?_
        unfold TickOut
        exact ⟨(T, 0), rfl, HT.out, HB7.out⟩
      · have HT := Lib.hid (HNO.out (fun t t0 t1 e => hzs (by
          have h1 := HTT.out t t0 t1 e
          subst h1
          exact ByteArray.ext (Array.toList_inj.1 (by rw [HZ.out]; exact e)))))
        have hz1 : (z.toList == s.toList) = false := by
          rw [ByteArray.toList_eq, ByteArray.toList_eq]
          simp only [beq_eq_false_iff_ne, ne_eq]
          exact fun e => hzs (ByteArray.ext (Array.toList_inj.1 e))
        go_wp2_with fail
        refine bodyPost_ret (v := .tuple #[.int .i64 0, .int .i64 10]) (by simp [results, Tryd.results9, go_sem]) rfl ?_
        unfold TickOut
        exact ⟨(0, 10), rfl, HT.out, HB7.out⟩
end Go.Proofs.YthgjgiccoobcgaaDoor
