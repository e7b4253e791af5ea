/- Numbers that calls hand back, and boxes of numbers, in a region that is walked once. -/
import Derived.Test.YtkmcohnhanphdaaGreatDoorPla
import Derived.Test.YtkmcohnhanphdaaGreatDoorUb
import Derived.Test.YtkmcohnhanphdaaGreatDoorUa
import Derived.Test.YtkmcohnhanphdaaGreatDoorWg
import Derived.Deep.CutBlock
import Derived.Deep.DeepCutAuto
import Derived.Test.YtkmcohnhanphdaaGreatDoorVe
set_option linter.unusedSimpArgs false
set_option linter.unusedVariables false
namespace Go.Proofs.YtkmcohnhanphdaaGreatDoor
open Go.RowKit Go.Dw
def QV (q : Rat) (k l : Nat) (v : Value) (w : World) : Prop := ∃ ng A n c D d e, v = .agg #[.bool ng, .slice A n c, .slice D d e] ∧ RatAt w w.heap.size ng A n c D d e q ∧ n ≤ k ∧ d ≤ l
theorem RatAt.later {q : Rat} {ng : Bool} {A D : Option Addr} {n c d e : Nat} {w w' : World} (h : RatAt w w.heap.size ng A n c D d e q) (hb : Below w.heap.size w w') : RatAt w' w'.heap.size ng A n c D d e q := ⟨h.1.to hb (Nat.le_refl _) hb.size, h.2.to hb (Nat.le_refl _) hb.size⟩
theorem QV.below {q : Rat} {k l : Nat} {v : Value} {w w' : World} (h : QV q k l v w) (hb : Below w.heap.size w w') : QV q k l v w' := by
  obtain ⟨ng, A, n, c, D, d, e, h1, h2, h3⟩ := h
  exact ⟨ng, A, n, c, D, d, e, h1, h2.later hb, h3⟩
def BxV (B : Nat) (T : TypeId) (cs : Array Value) (v : Value) (w : World) : Prop := ∃ g, v = .pointer (some ⟨g, 0, none⟩) ∧ B ≤ g ∧ w.heap[g]? = some (.cells cs T (0, 0))
theorem BxV.below {B : Nat} {T : TypeId} {cs : Array Value} {v : Value} {w w' : World} (h : BxV B T cs v w) (hb : Below w.heap.size w w') : BxV B T cs v w' := by
  obtain ⟨g, h1, h2, h3⟩ := h
  exact ⟨g, h1, h2, (hb.block g (blk_lt h3)).trans h3⟩
def FrV (R : List Nat) (i j : Nat) (u v : Value) : Prop := i ∈ R → j ∈ R → u ≠ v
theorem BxV.far {B : Nat} {T : TypeId} {cs : Array Value} {v : Value} {w : World} (h : BxV B T cs v w) : v ≠ .pointer (some ⟨w.heap.size, 0, none⟩) := by
  obtain ⟨g, rfl, _, h3⟩ := h
  intro e
  injection e with e
  injection e with e
  injection e with e _ _
  have := blk_lt h3
  omega
def QBox (w : World) (g : Nat) (q : Rat) (k l : Nat) : Prop := ∃ ng A n c D d e, w.heap[g]? = some (.cells #[.bool ng, .slice A n c, .slice D d e] 88 (0, 0)) ∧ RatAt w w.heap.size ng A n c D d e q ∧ n ≤ k ∧ d ≤ l
theorem QBox.below {w w' : World} {g k l : Nat} {q : Rat} (h : QBox w g q k l) (hb : Below w.heap.size w w') : QBox w' g q k l := by
  obtain ⟨ng, A, n, c, D, d, e, h1, h2, h3⟩ := h
  exact ⟨ng, A, n, c, D, d, e, (hb.block g (blk_lt h1)).trans h1, h2.later hb, h3⟩
theorem QBox.store {w : World} {g n c d e k l : Nat} {q : Rat} {ng : Bool} {A D : Option Addr} {o0 o1 o2 : Value} (hg : w.heap[g]? = some (.cells #[o0, o1, o2] 88 (0, 0))) (h : RatAt w w.heap.size ng A n c D d e q) (hk : n ≤ k) (hl : d ≤ l) :
    QBox (((w.setCell ⟨g, 0, none⟩ (.bool ng)).setCell ⟨g, 1, none⟩ (.slice A n c)).setCell ⟨g, 2, none⟩ (.slice D d e)) g q k l :=
  ⟨ng, A, n, c, D, d, e, box3_heap hg, h.box3 ⟨_, _, hg⟩ (by decide) _ _ _, hk, hl⟩
theorem QBox.far {w : World} {g p k l : Nat} {q : Rat} (h : QBox w g q k l) (ht : TyAt 88 w p) (hne : g ≠ p) (v0 v1 v2 : Value) :
    QBox (((w.setCell ⟨p, 0, none⟩ v0).setCell ⟨p, 1, none⟩ v1).setCell ⟨p, 2, none⟩ v2) g q k l := by
  obtain ⟨ng, A, n, c, D, d, e, h1, h2, h3⟩ := h
  exact ⟨ng, A, n, c, D, d, e, box_far (box_far (box_far h1 hne 0 v0) hne 1 v1) hne 2 v2, h2.box3 ht (by decide) _ _ _, h3⟩
theorem qbox_two {w : World} {g p n c d e n' c' d' e' k l k' l' : Nat} {q q' : Rat} {ng ng' : Bool} {A D A' D' : Option Addr} {o0 o1 o2 u0 u1 u2 : Value} (hg : w.heap[g]? = some (.cells #[o0, o1, o2] 88 (0, 0))) (hp : w.heap[p]? = some (.cells #[u0, u1, u2] 88 (0, 0))) (hne : g ≠ p)
    (h : RatAt w w.heap.size ng A n c D d e q) (h' : RatAt w w.heap.size ng' A' n' c' D' d' e' q') (hk : n ≤ k) (hl : d ≤ l) (hk' : n' ≤ k') (hl' : d' ≤ l') :
    ∃ V, V = (((((w.setCell ⟨g, 0, none⟩ (.bool ng)).setCell ⟨g, 1, none⟩ (.slice A n c)).setCell ⟨g, 2, none⟩ (.slice D d e)).setCell ⟨p, 0, none⟩ (.bool ng')).setCell ⟨p, 1, none⟩ (.slice A' n' c')).setCell ⟨p, 2, none⟩ (.slice D' d' e') ∧
      Hid (QBox V g q k l) ∧ Hid (QBox V p q' k' l') ∧ Hid (∀ N w0, N ≤ g → N ≤ p → Below N w0 w → Below N w0 V) := by
  obtain ⟨V1, hV1⟩ : ∃ V, V = ((w.setCell ⟨g, 0, none⟩ (.bool ng)).setCell ⟨g, 1, none⟩ (.slice A n c)).setCell ⟨g, 2, none⟩ (.slice D d e) := ⟨_, rfl⟩
  have a1 : QBox V1 g q k l := by rw [hV1]; exact QBox.store hg h hk hl
  have a2 : V1.heap[p]? = some (.cells #[u0, u1, u2] 88 (0, 0)) := by rw [hV1]; exact box_far (box_far (box_far hp hne.symm 0 _) hne.symm 1 _) hne.symm 2 _
  have a3 : RatAt V1 V1.heap.size ng' A' n' c' D' d' e' q' := by rw [hV1]; exact h'.box3 ⟨_, _, hg⟩ (by decide) _ _ _
  refine ⟨_, rfl, ?_, ?_, fun N w0 hN hN' hb => ?_⟩
  · rw [← hV1]; exact a1.far ⟨_, _, a2⟩ hne _ _ _
  · rw [← hV1]; exact QBox.store a2 a3 hk' hl'
  · exact box3_below (box3_below hb hN) hN'
end Go.Proofs.YtkmcohnhanphdaaGreatDoor
/- edit.value where a line is drawn between two points (printed by tools/mkval.py). -/
namespace Go.Proofs.YtkmcohnhanphdaaGreatDoor
open Go.RowKit Go.Dw
attribute [local go_sem ↓] Go.wp_at_zero Go.wp_at_succ
set_option maxRecDepth 100000 in
set_option maxHeartbeats 8000000 in
theorem EVALUE_line (c : Cp) (A : Option Addr) (n cap : Nat) (i : Int) (hlen : c.len ≤ 100000) (hok : Hid (EnvOk c.len c.env)) (hfl : 0 < envK c.env i ∧ envK c.env i < c.env.length ∧ (ptOf c.env (envK c.env i)).at_ ≠ i) (w : World) (B : Nat) (hB : B ≤ w.heap.size) (hh : Hid (PtsAt w B A n c.env)) :
    Calls Tryz.prog 66 #[cpV c (.slice A n cap), .int .i64 i] w (OutQ w (envV c.env i) 20000 20000) := by
  obtain ⟨m, ch, fr, tr, at9, ln, env⟩ := c
  unfold cpV
  dsimp only at hok hfl hh hlen ⊢
  have hl := Lib.hid hh.out.1
  have HRT := Lib.hid hok.out.right
  have HIN := Lib.hid hok.out.in_
  have HCUT := Lib.hid (envK_cut hok.out.up i)
  have hn50 : n ≤ 50 := by have := hok.out.few; have := hl.out; omega
  have hn0 : 0 < n := by have := hok.out.some_; have := hl.out; omega
  obtain ⟨W, g, hW, hg, HW, HBW, HSW⟩ := boxes2c w (.cells #[.string m, .int .i64 ch, .int .i64 fr, .int .i64 tr, .int .i64 at9, .int .i64 ln, .slice A n cap] 58) (.cells #[.bool false, .slice none 0 0, .slice none 0 0] 88)
  have HG9 := Lib.hid hg
  obtain ⟨_, _, _, _, _, _, p6⟩ := seven_cells HW.out.1
  have hgW : g < W.heap.size := blk_lt HW.out.1
  have hgW1 : g + 1 < W.heap.size := blk_lt HW.out.2
  have hhW : Hid (PtsAt W B A n env) := hh.out.below HBW.out hB
  have hBW : B ≤ W.heap.size := Nat.le_trans hB HBW.out.size
  obtain ⟨k, hk⟩ : ∃ k, envK env i = k := ⟨_, rfl⟩
  have HK := Lib.hid hk
  have hkn : k ≤ n := by rw [← hk, ← hl.out]; exact envK_le _ _
  rw [hk] at hfl HCUT
  clear hk
  go_enter Tryz.func66, Tryz.ntmps66
  go_upto_region 1 with (fail)
  rw [← hW, ← hg]
  clear hW hg
  go_upto_region 2 with (fail)
  go_wp2_with fail
  refine (BSEARCH_any A n cap env i (fun p => Lib.compareInt p.at_ i) 112 #[] (by omega) (Lib.hid hok.out.up) W B hBW hhW (fun _ _ => rfl) (Lib.hid (fun p _ => cmpI_lt p.at_ i)) (Lib.hid (fun p w1 _ => EVALUE1_any p i w1))).mono ?_
  rintro e w1 ⟨rfl, hb1⟩
  rw [HK.out]
  have HB1 := Lib.hid (HBW.out.trans (hb1.mono HBW.out.size))
  have HX := Lib.hid ((hb1.block (g + 1) hgW1).trans HW.out.2)
  have HP1 : Hid (PtsAt w1 B A n env) := hhW.out.below hb1 hBW
  clear hb1 p6
  obtain ⟨fnd, hfnd⟩ : ∃ fnd, decide (k < env.length ∧ (ptOf env k).at_ = i) = fnd := ⟨_, rfl⟩
  rw [hfnd]
  have HF := Lib.hid hfnd
  clear hfnd
  have hff : fnd = false := by rw [← HF.out]; exact decide_eq_false (fun h => hfl.2.2 h.2)
  subst hff
  obtain ⟨j, rfl⟩ : ∃ j, k = j + 1 := ⟨k - 1, by omega⟩
  obtain ⟨hfl0, hfl1, hfl2⟩ := hfl
  have HVV : Hid (envV env i = ptV (ptOf env j) + (ptV (ptOf env (j + 1)) - ptV (ptOf env j)) * (((i - (ptOf env j).at_ : Int) : Rat) / (((ptOf env (j + 1)).at_ - (ptOf env j).at_ : Int) : Rat))) := by
    show _ = _
    unfold envV
    rw [HK.out, if_neg (fun h => hfl2 h.2), if_neg (by omega), if_neg (by omega), Nat.add_sub_cancel]
  have RT1 := Lib.hid (HRT.out _ (pt_mem (l := env) (k := j) (by omega)))
  have RT2 := Lib.hid (HRT.out _ (pt_mem (l := env) (k := j + 1) (by omega)))
  have HI1 := HIN.out _ (pt_mem (l := env) (k := j) (by omega))
  have HI2 := HIN.out _ (pt_mem (l := env) (k := j + 1) (by omega))
  have hc1 := HCUT.out.1 j (by omega)
  have hc2 := HCUT.out.2 (j + 1) (Nat.le_refl _) hfl1
  rw [hl.out] at hfl1
  obtain ⟨b, o, e, hb, k1, k2, k3⟩ := HP1.out.2 j (by omega)
  subst e
  obtain ⟨b', o', e, hb', k1', k2', k3'⟩ := HP1.out.2 (j + 1) hfl1
  injection e with e
  injection e with e1 e2 _
  subst e1
  subst e2
  have hji : IntKind.i64.wrap (j : Int) = (j : Int) := IntWalk.i64_in _ (by omega)
  have hj1 : ((j + 1 : Nat) : Int) - 1 = (j : Int) := by omega
  have hjn : (j : Int) < (n : Int) := by omega
  have hj0 : (0 : Int) ≤ (j : Int) := by omega
  have hjn1 : ((j + 1 : Nat) : Int) < (n : Int) := by omega
  have hj01 : (0 : Int) ≤ ((j + 1 : Nat) : Int) := by omega
  have hd1 : (((j + 1 : Nat) : Int) == 0) = false := by simp; omega
  have hd2 : (((j + 1 : Nat) : Int) == (n : Int)) = false := by simp; omega
  obtain ⟨p1, hp1⟩ : ∃ p, ptOf env j = p := ⟨_, rfl⟩
  obtain ⟨p2, hp2⟩ : ∃ p, ptOf env (j + 1) = p := ⟨_, rfl⟩
  rw [hp1] at k1 k2 k3 HVV RT1 HI1 hc1
  rw [hp2] at k1' k2' k3' HVV RT2 HI2 hc2 hfl2
  have hc3 : i < p2.at_ := by omega
  have HNE : Hid (p2.at_ - p1.at_ ≠ 0) := by show _ ≠ _; omega
  obtain ⟨hi1, hi2⟩ := HI1
  obtain ⟨hi3, hi4⟩ := HI2
  clear hfl0 hfl2 hp1 hp2 HIN HCUT HF HRT hc2
  go_upto_region 9 with (fail)
  rw [show ((j : Int) + 1 == 0) = false by simp; omega, show ((j : Int) + 1 == (n : Int)) = false by simp; omega]
  clear hd1 hd2
  have hjq1 : (0 : Int) ≤ (j : Int) + 1 := by omega
  have hjq2 : (j : Int) + 1 < (n : Int) := by omega
  have hbw1 : b < w1.heap.size := by have := HB1.out.size; omega
  go_cut [8, 9] (fun s8 s9 wx => ∃ (g8 g9 : Nat), s8 = .pointer (some ⟨g8, 0, none⟩) ∧ s9 = .pointer (some ⟨g9, 0, none⟩) ∧ Hid (wx.heap[g8]? = some (.cells #[.int .i64 p1.at_, .string p1.num, .string p1.den] 68 (0, 0))) ∧ Hid (wx.heap[g9]? = some (.cells #[.int .i64 p2.at_, .string p2.num, .string p2.den] 68 (0, 0))) ∧ Hid (Below w1.heap.size w1 wx))
  case first =>
    go_region
    all_goals (go_wp2_with fail; go_meet)
    · exact ⟨_, _, rfl, rfl, (heap2 w1 _ _).1, (heap2 w1 _ _).2, (((Below.refl _ w1).alloc (Nat.le_refl _) _).alloc (by simp) _).drew⟩
    · exact ⟨_, _, rfl, rfl, (heap2 w1 _ _).2, (heap2 w1 _ _).1, (((Below.refl _ w1).alloc (Nat.le_refl _) _).alloc (by simp) _).drew⟩
  case rest =>
    obtain ⟨g8, g9, rfl, rfl, H8, H9, HB0⟩ := hcut
    obtain ⟨wa, rfl⟩ : ∃ x : World, x = wc := ⟨_, rfl⟩
    have HXa := Lib.hid ((HB0.out.block (g + 1) (blk_lt HX.out)).trans HX.out)
    have HBa := Lib.hid (HB1.out.trans (HB0.out.mono HB1.out.size))
    obtain ⟨_, x1, x2, _, _, _⟩ := r3_cells H8.out
    obtain ⟨_, y1, y2, _, _, _⟩ := r3_cells H9.out
    clear k1 k2 k3 k1' k2' k3' HX HP1 hhW HB0 HB1 HK HW
    go_upto_region 10 with (fail)
    refine wp_region_head 8 (fun x9 => x9.cell? ⟨g8, 1, none⟩ = some (.string p1.num) ∧ x9.cell? ⟨g8, 2, none⟩ = some (.string p1.den) ∧ x9.cell? ⟨g9, 1, none⟩ = some (.string p2.num) ∧ x9.cell? ⟨g9, 2, none⟩ = some (.string p2.den)) (by kernel_rfl) (by kernel_rfl) ?_
    obtain ⟨wc, hwc⟩ : ∃ x : World, x = wa.drew := ⟨_, rfl⟩
    have HBc : Hid (Below wa.heap.size wa wc) := by show Below _ _ _; rw [hwc]; exact (Below.refl _ _).drew
    have hS : wc.cell? ⟨g8, 1, none⟩ = some (.string p1.num) ∧ wc.cell? ⟨g8, 2, none⟩ = some (.string p1.den) ∧ wc.cell? ⟨g9, 1, none⟩ = some (.string p2.num) ∧ wc.cell? ⟨g9, 2, none⟩ = some (.string p2.den) := by rw [hwc]; exact ⟨x1, x2, y1, y2⟩
    rw [← hwc]
    clear hwc
    refine HL.take (i := 0) (oi := _) (v := ?_) rfl (by kernel_rfl) (by kernel_rfl) (by decide) (fun _ _ _ h => h) (Or.inl ⟨by rfl, ?_⟩) hS ?_
    rotate_left
    · intro wz hwz
      try dsimp only at hwz
      go_simp
      try with_reducible rfl
    simp only [zA, zB, zC, Act.put, zD, zE, zF]
    refine HL.take (i := 1) (oi := _) (v := ?_) rfl (by kernel_rfl) (by kernel_rfl) (by decide) (fun _ _ _ h => h) (Or.inl ⟨by rfl, ?_⟩) hS ?_
    rotate_left
    · intro wz hwz
      try dsimp only at hwz
      go_simp
      try with_reducible rfl
    simp only [zA, zB, zC, Act.put, zD, zE, zF]
    refine HL.take (i := 3) (oi := _) (v := ?_) rfl (by kernel_rfl) (by kernel_rfl) (by decide) (fun _ _ _ h => h) (Or.inl ⟨by rfl, ?_⟩) hS ?_
    rotate_left
    · intro wz hwz
      try dsimp only at hwz
      go_simp
      try with_reducible rfl
    simp only [zA, zB, zC, Act.put, zD, zE, zF]
    refine HL.take (i := 4) (oi := _) (v := ?_) rfl (by kernel_rfl) (by kernel_rfl) (by decide) (fun _ _ _ h => h) (Or.inl ⟨by rfl, ?_⟩) hS ?_
    rotate_left
    · intro wz hwz
      try dsimp only at hwz
      go_simp
      try with_reducible rfl
    simp only [zA, zB, zC, Act.put, zD, zE, zF]
    refine HL.join [2, 5, 6, 7] [[], [], [], [], [], [2], [], [], [2, 5, 6, 7], [2, 5, 6, 7]] (fun i v wx => match i with | 2 => QV (ptV p1) 2001 2000 v wx | 5 => QV (ptV p2) 2001 2000 v wx | 6 => BxV wa.heap.size 88 #[.bool false, .slice none 0 0, .slice none 0 0] v wx | 7 => BxV wa.heap.size 88 #[.bool false, .slice none 0 0, .slice none 0 0] v wx | _ => True) (FrV [6, 7]) (fun wx => Below wa.heap.size wa wx) (fun wx wy => Below wx.heap.size wx wy) (by kernel_rfl) rfl ?_ ?_ ?_ HBc.out ?_ ?_
    · intro wx hg
      exact ⟨(hg.cell (p := ⟨g8, 1, none⟩) (blk_lt H8.out)).trans x1, (hg.cell (p := ⟨g8, 2, none⟩) (blk_lt H8.out)).trans x2, (hg.cell (p := ⟨g9, 1, none⟩) (blk_lt H9.out)).trans y1, (hg.cell (p := ⟨g9, 2, none⟩) (blk_lt H9.out)).trans y2⟩
    · intro wx wy hg hr; exact hg.trans (hr.mono hg.size)
    · intro i v wx wy hi hv hr
      simp only [List.mem_cons, List.not_mem_nil, or_false] at hi
      rcases hi with rfl | rfl | rfl | rfl
      · exact hv.below hr
      · exact hv.below hr
      · exact hv.below hr
      · exact hv.below hr
    · intro i o hi ho vs wx hg hv
      simp only [List.mem_cons, List.not_mem_nil, or_false] at hi
      rcases hi with rfl | rfl | rfl | rfl
      · obtain rfl := Option.some.inj (show some _ = some o from ho)
        show JStep _ _ _ _ _ _ _ _ _ wx
        clear hv ho hS 
        try simp only [zA, zB, zC, Act.put, zD, zE, zF]
        refine ⟨by rfl, fun K hK => ?_⟩
        go_simp
        refine (FROM_ok RT1.out _).mono ?_
        rintro e wn ⟨ng2, A2, n2, c2, D2, d2, e2, rfl, hH, k9, m9, hbn⟩
        exact hK.out _ _ _ rfl ⟨ng2, A2, n2, c2, D2, d2, e2, rfl, hH, k9, m9⟩ (fun j u hj hji hu h1 h2 => absurd h2 (by decide)) hbn
      · obtain rfl := Option.some.inj (show some _ = some o from ho)
        show JStep _ _ _ _ _ _ _ _ (Act.put _ (some 59) (vs 2)) wx
        clear hv ho hS 
        obtain ⟨v2, hv2⟩ : ∃ x, vs 2 = x := ⟨_, rfl⟩
        rw [hv2]
        clear hv2
        try simp only [zA, zB, zC, Act.put, zD, zE, zF]
        refine ⟨by rfl, fun K hK => ?_⟩
        go_simp
        refine (FROM_ok RT2.out _).mono ?_
        rintro e wn ⟨ng5, A5, n5, c5, D5, d5, e5, rfl, hH, k9, m9, hbn⟩
        exact hK.out _ _ _ rfl ⟨ng5, A5, n5, c5, D5, d5, e5, rfl, hH, k9, m9⟩ (fun j u hj hji hu h1 h2 => absurd h2 (by decide)) hbn
      · obtain rfl := Option.some.inj (show some _ = some o from ho)
        show JStep _ _ _ _ _ _ _ _ _ wx
        clear hv ho hS 
        try simp only [zA, zB, zC, Act.put, zD, zE, zF]
        refine ⟨by rfl, fun K hK => ?_⟩
        go_simp
        have hbn : Below wx.heap.size wx (wx.alloc (.cells #[.bool false, .slice none 0 0, .slice none 0 0] 88)) := (Below.refl _ _).alloc (Nat.le_refl _) _
        exact hK.out _ _ _ rfl ⟨_, rfl, hg.size, heap_alloc_new _ _⟩ (fun j u hj hji hu h1 h2 => by
          simp only [List.mem_cons, List.not_mem_nil, or_false] at h1
          rcases h1 with rfl | rfl
          · first | exact BxV.far hu | exact absurd rfl hji
          · first | exact BxV.far hu | exact absurd rfl hji) hbn
      · obtain rfl := Option.some.inj (show some _ = some o from ho)
        show JStep _ _ _ _ _ _ _ _ _ wx
        clear hv ho hS 
        try simp only [zA, zB, zC, Act.put, zD, zE, zF]
        refine ⟨by rfl, fun K hK => ?_⟩
        go_simp
        have hbn : Below wx.heap.size wx (wx.alloc (.cells #[.bool false, .slice none 0 0, .slice none 0 0] 88)) := (Below.refl _ _).alloc (Nat.le_refl _) _
        exact hK.out _ _ _ rfl ⟨_, rfl, hg.size, heap_alloc_new _ _⟩ (fun j u hj hji hu h1 h2 => by
          simp only [List.mem_cons, List.not_mem_nil, or_false] at h1
          rcases h1 with rfl | rfl
          · first | exact BxV.far hu | exact absurd rfl hji
          · first | exact BxV.far hu | exact absurd rfl hji) hbn
    · intro vs wx hg hv hx
      have h2 : QV (ptV p1) 2001 2000 (vs 2) wx := hv 2 (by decide)
      obtain ⟨ng2, A2, n2, c2, D2, d2, e2, e2, hR2, k2, m2⟩ := h2
      have h5 : QV (ptV p2) 2001 2000 (vs 5) wx := hv 5 (by decide)
      obtain ⟨ng5, A5, n5, c5, D5, d5, e5, e5, hR5, k5, m5⟩ := h5
      have h6 : BxV wa.heap.size 88 #[.bool false, .slice none 0 0, .slice none 0 0] (vs 6) wx := hv 6 (by decide)
      obtain ⟨g10, e6, hN10, hG10⟩ := h6
      have h7 : BxV wa.heap.size 88 #[.bool false, .slice none 0 0, .slice none 0 0] (vs 7) wx := hv 7 (by decide)
      obtain ⟨g11, e7, hN11, hG11⟩ := h7
      have hx6_7 := hx 6 (by decide) 7 (by decide) (by decide)
      rw [e6, e7] at hx6_7
      show HL _ _ _ _ _ _ _ _ _ (Act.put (Act.put (Act.put (Act.put _ (some 59) (vs 2)) (some 62) (vs 5)) (some 10) (vs 6)) (some 11) (vs 7)) wx
      rw [e2, e5, e6, e7]
      clear hv hx HBc e2 e5 e6 e7
      try simp only [zA, zB, zC, Act.put, zD, zE, zF]
      have HBc := Lib.hid hg
      obtain ⟨wc, rfl⟩ : ∃ x : World, x = wx := ⟨_, rfl⟩
      have hne2 : g10 ≠ g11 := fun e => by
        rcases hx6_7 with h | h
        · exact h (by decide) (by decide) (by rw [e])
        · exact h (by decide) (by decide) (by rw [e])
      clear hx6_7
      obtain ⟨r50, r51, r52, f50, f51, f52⟩ := r3_cells hG10
      obtain ⟨r60, r61, r62, f60, f61, f62⟩ := r3_cells hG11
      have hS := True.intro
      refine HL.done (by kernel_rfl) ?_
      clear hS
      simp only [List.drop_succ_cons, List.drop_zero]
      obtain ⟨wb, hV, HQU, HQV, RB⟩ := qbox_two hG10 hG11 hne2 hR2 hR5 k2 m2 k5 m5
      have HB2 : Hid (Below wa.heap.size wa wb) := RB.out _ _ hN10 hN11 HBc.out
      have h11 : ¬ g11 = g10 := Ne.symm hne2
      clear RB hR2 hR5 hG10 hG11 HBc hne2
      go_upto_region 11 with (fail)
      rw [← hV]
      clear hV r50 r51 r52 r60 r61 r62 f50 f51 f52 f60 f61 f62 h11
      obtain ⟨ngU, AU, nU, cU, DU, dU, eU, bU, hU, hkU, hlU⟩ := HQU.out
      obtain ⟨ngV, AV, nV, cV, DV, dV, eV, bV, hV, hkV, hlV⟩ := HQV.out
      obtain ⟨u0, u1, u2, _, _, _⟩ := r3_cells bU
      obtain ⟨v0, v1, v2, _, _, _⟩ := r3_cells bV
      have HBU := Lib.hid bU
      have HBV := Lib.hid bV
      have HU := Lib.hid hU
      have HV := Lib.hid hV
      clear bU bV hU hV HQU HQV
      have H8b := Lib.hid ((HB2.out.block g8 (blk_lt H8.out)).trans H8.out)
      have H9b := Lib.hid ((HB2.out.block g9 (blk_lt H9.out)).trans H9.out)
      obtain ⟨x0, _, _, _, _, _⟩ := r3_cells H8b.out
      obtain ⟨y0, _, _, _, _, _⟩ := r3_cells H9b.out
      clear H8 H9
      have H8 := H8b
      have H9 := H9b
      clear H8b H9b
      have HXb := Lib.hid ((HB2.out.block (g + 1) (blk_lt HXa.out)).trans HXa.out)
      have HBb := Lib.hid (HBa.out.trans (HB2.out.mono HBa.out.size))
      clear HXa HBa HB2
      refine wp_region_head 16 (fun x9 => x9.cell? ⟨g10, 0, none⟩ = some (.bool ngU) ∧ x9.cell? ⟨g10, 1, none⟩ = some (.slice AU nU cU) ∧ x9.cell? ⟨g10, 2, none⟩ = some (.slice DU dU eU) ∧ x9.cell? ⟨g11, 0, none⟩ = some (.bool ngV) ∧ x9.cell? ⟨g11, 1, none⟩ = some (.slice AV nV cV) ∧ x9.cell? ⟨g11, 2, none⟩ = some (.slice DV dV eV) ∧ x9.cell? ⟨g8, 0, none⟩ = some (.int .i64 p1.at_) ∧ x9.cell? ⟨g9, 0, none⟩ = some (.int .i64 p2.at_)) (by kernel_rfl) (by kernel_rfl) ?_
      obtain ⟨wc, hwc⟩ : ∃ x : World, x = wb.drew := ⟨_, rfl⟩
      have hbn : Below wb.heap.size wb wb.drew := (Below.refl _ _).drew
      have HU := Lib.hid (HU.out.to hbn (Nat.le_refl _) hbn.size)
      have HV := Lib.hid (HV.out.to hbn (Nat.le_refl _) hbn.size)
      clear hbn
      have HBc : Hid (Below wb.heap.size wb wc) := by show Below _ _ _; rw [hwc]; exact (Below.refl _ _).drew
      have hS : wc.cell? ⟨g10, 0, none⟩ = some (.bool ngU) ∧ wc.cell? ⟨g10, 1, none⟩ = some (.slice AU nU cU) ∧ wc.cell? ⟨g10, 2, none⟩ = some (.slice DU dU eU) ∧ wc.cell? ⟨g11, 0, none⟩ = some (.bool ngV) ∧ wc.cell? ⟨g11, 1, none⟩ = some (.slice AV nV cV) ∧ wc.cell? ⟨g11, 2, none⟩ = some (.slice DV dV eV) ∧ wc.cell? ⟨g8, 0, none⟩ = some (.int .i64 p1.at_) ∧ wc.cell? ⟨g9, 0, none⟩ = some (.int .i64 p2.at_) := by rw [hwc]; exact ⟨u0, u1, u2, v0, v1, v2, x0, y0⟩
      have hg_0 : g10 < wc.heap.size := by rw [hwc]; exact blk_lt HBU.out
      have hg_1 : g11 < wc.heap.size := by rw [hwc]; exact blk_lt HBV.out
      have hg_2 : g8 < wc.heap.size := by rw [hwc]; exact blk_lt H8.out
      have hg_3 : g9 < wc.heap.size := by rw [hwc]; exact blk_lt H9.out
      rw [← hwc] at HU HV
      rw [← hwc]
      clear hwc
      refine HL.take (i := 0) (oi := _) (v := ?_) rfl (by kernel_rfl) (by kernel_rfl) (by decide) (fun _ _ _ h => h) (Or.inl ⟨by rfl, ?_⟩) hS ?_
      rotate_left
      · intro wz hwz
        try dsimp only at hwz
        go_simp
        try with_reducible rfl
      simp only [zA, zB, zC, Act.put, zD, zE, zF]
      refine HL.take (i := 1) (oi := _) (v := ?_) rfl (by kernel_rfl) (by kernel_rfl) (by decide) (fun _ _ _ h => h) (Or.inl ⟨by rfl, ?_⟩) hS ?_
      rotate_left
      · intro wz hwz
        try dsimp only at hwz
        go_simp
        try with_reducible rfl
      simp only [zA, zB, zC, Act.put, zD, zE, zF]
      refine HL.take (i := 2) (oi := _) (v := ?_) rfl (by kernel_rfl) (by kernel_rfl) (by decide) (fun _ _ _ h => h) (Or.inl ⟨by rfl, ?_⟩) hS ?_
      rotate_left
      · intro wz hwz
        try dsimp only at hwz
        go_simp
        try with_reducible rfl
      simp only [zA, zB, zC, Act.put, zD, zE, zF]
      refine HL.take (i := 4) (oi := _) (v := ?_) rfl (by kernel_rfl) (by kernel_rfl) (by decide) (fun _ _ _ h => h) (Or.inl ⟨by rfl, ?_⟩) hS ?_
      rotate_left
      · intro wz hwz
        try dsimp only at hwz
        go_simp
        try with_reducible rfl
      simp only [zA, zB, zC, Act.put, zD, zE, zF]
      refine HL.take (i := 5) (oi := _) (v := ?_) rfl (by kernel_rfl) (by kernel_rfl) (by decide) (fun _ _ _ h => h) (Or.inl ⟨by rfl, ?_⟩) hS ?_
      rotate_left
      · intro wz hwz
        try dsimp only at hwz
        go_simp
        try with_reducible rfl
      simp only [zA, zB, zC, Act.put, zD, zE, zF]
      refine HL.take (i := 6) (oi := _) (v := ?_) rfl (by kernel_rfl) (by kernel_rfl) (by decide) (fun _ _ _ h => h) (Or.inl ⟨by rfl, ?_⟩) hS ?_
      rotate_left
      · intro wz hwz
        try dsimp only at hwz
        go_simp
        try with_reducible rfl
      simp only [zA, zB, zC, Act.put, zD, zE, zF]
      refine HL.take (i := 7) (oi := _) (v := ?_) rfl (by kernel_rfl) (by kernel_rfl) (by decide) (fun _ _ _ h => h) (Or.inl ⟨by rfl, ?_⟩) hS ?_
      rotate_left
      · intro wz hwz
        try dsimp only at hwz
        go_simp
        try with_reducible rfl
      simp only [zA, zB, zC, Act.put, zD, zE, zF]
      refine HL.take (i := 8) (oi := _) (v := ?_) rfl (by kernel_rfl) (by kernel_rfl) (by decide) (fun _ _ _ h => h) (Or.inl ⟨by rfl, ?_⟩) hS ?_
      rotate_left
      · intro wz hwz
        try dsimp only at hwz
        go_simp
        try with_reducible rfl
      simp only [zA, zB, zC, Act.put, zD, zE, zF]
      refine HL.take (i := 9) (oi := _) (v := ?_) rfl (by kernel_rfl) (by kernel_rfl) (by decide) (fun _ _ _ h => h) (Or.inl ⟨by rfl, ?_⟩) hS ?_
      rotate_left
      · intro wz hwz
        try dsimp only at hwz
        go_simp
        try with_reducible rfl
      simp only [zA, zB, zC, Act.put, zD, zE, zF]
      refine HL.take (i := 10) (oi := _) (v := ?_) rfl (by kernel_rfl) (by kernel_rfl) (by decide) (fun _ _ _ h => h) (Or.inl ⟨by rfl, ?_⟩) hS ?_
      rotate_left
      · intro wz hwz
        try dsimp only at hwz
        go_simp
        try with_reducible rfl
      simp only [zA, zB, zC, Act.put, zD, zE, zF]
      refine HL.take (i := 11) (oi := _) (v := ?_) rfl (by kernel_rfl) (by kernel_rfl) (by decide) (fun _ _ _ h => h) (Or.inl ⟨by rfl, ?_⟩) hS ?_
      rotate_left
      · intro wz hwz
        try dsimp only at hwz
        go_simp
        try with_reducible rfl
      simp only [zA, zB, zC, Act.put, zD, zE, zF]
      refine HL.take (i := 12) (oi := _) (v := ?_) rfl (by kernel_rfl) (by kernel_rfl) (by decide) (fun _ _ _ h => h) (Or.inl ⟨by rfl, ?_⟩) hS ?_
      rotate_left
      · intro wz hwz
        try dsimp only at hwz
        go_simp
        try with_reducible rfl
      simp only [zA, zB, zC, Act.put, zD, zE, zF]
      refine HL.one (i := 3) (o := _) rfl (by kernel_rfl) (by decide) (by rfl) ?_
      intro K hK
      go_simp
      refine (QSUB_any ngV ngU AV AU DV DU nV cV dV eV nU cU dU eU _ _ (by omega) (by omega) (by omega) (by omega) _ wc.heap.size (Nat.le_refl _) HV HU).mono ?_
      rintro e wn ⟨ng1, A1, n1, c1, D1, d1, e1, rfl, hH1, k1, m1, hbn⟩
      have H1 := Lib.hid hH1
      clear hH1
      clear HV
      replace HU := Lib.hid (HU.out.to hbn (Nat.le_refl _) hbn.size)
      have HBn := Lib.hid (HBc.out.trans (hbn.mono HBc.out.size))
      have hSn : wn.cell? ⟨g10, 0, none⟩ = some (.bool ngU) ∧ wn.cell? ⟨g10, 1, none⟩ = some (.slice AU nU cU) ∧ wn.cell? ⟨g10, 2, none⟩ = some (.slice DU dU eU) ∧ wn.cell? ⟨g11, 0, none⟩ = some (.bool ngV) ∧ wn.cell? ⟨g11, 1, none⟩ = some (.slice AV nV cV) ∧ wn.cell? ⟨g11, 2, none⟩ = some (.slice DV dV eV) ∧ wn.cell? ⟨g8, 0, none⟩ = some (.int .i64 p1.at_) ∧ wn.cell? ⟨g9, 0, none⟩ = some (.int .i64 p2.at_) := ⟨(hbn.cell (p := ⟨g10, 0, none⟩) hg_0).trans hS.1, (hbn.cell (p := ⟨g10, 1, none⟩) hg_0).trans hS.2.1, (hbn.cell (p := ⟨g10, 2, none⟩) hg_0).trans hS.2.2.1, (hbn.cell (p := ⟨g11, 0, none⟩) hg_1).trans hS.2.2.2.1, (hbn.cell (p := ⟨g11, 1, none⟩) hg_1).trans hS.2.2.2.2.1, (hbn.cell (p := ⟨g11, 2, none⟩) hg_1).trans hS.2.2.2.2.2.1, (hbn.cell (p := ⟨g8, 0, none⟩) hg_2).trans hS.2.2.2.2.2.2.1, (hbn.cell (p := ⟨g9, 0, none⟩) hg_3).trans hS.2.2.2.2.2.2.2⟩
      have hgn_0 := Nat.lt_of_lt_of_le hg_0 hbn.size
      have hgn_1 := Nat.lt_of_lt_of_le hg_1 hbn.size
      have hgn_2 := Nat.lt_of_lt_of_le hg_2 hbn.size
      have hgn_3 := Nat.lt_of_lt_of_le hg_3 hbn.size
      refine hK.out _ _ hSn ?_
      clear hK K hS HBc hg_0 hg_1 hg_2 hg_3
      try simp only [zA, zB, zC, Act.put, zD, zE, zF]
      have hS := hSn
      have HBc := HBn
      have hg_0 := hgn_0
      have hg_1 := hgn_1
      have hg_2 := hgn_2
      have hg_3 := hgn_3
      clear hSn HBn hbn hgn_0 hgn_1 hgn_2 hgn_3
      obtain ⟨wc, rfl⟩ : ∃ x : World, x = wn := ⟨_, rfl⟩
      refine HL.one (i := 13) (o := _) rfl (by kernel_rfl) (by decide) (by rfl) ?_
      intro K hK
      go_simp
      rw [IntWalk.i64_in (i - p1.at_) (by omega), IntWalk.i64_in (p2.at_ - p1.at_) (by omega)]
      refine (QFRAC_any (i - p1.at_) (p2.at_ - p1.at_) (by omega) (by omega) (by omega) (by omega) HNE.out _).mono ?_
      rintro e wn ⟨ng2, A2, n2, c2, D2, d2, e2, rfl, hH2, k2, m2, hbn⟩
      have H2 := Lib.hid hH2
      clear hH2
      replace HU := Lib.hid (HU.out.to hbn (Nat.le_refl _) hbn.size)
      replace H1 := Lib.hid (H1.out.to hbn (Nat.le_refl _) hbn.size)
      have HBn := Lib.hid (HBc.out.trans (hbn.mono HBc.out.size))
      have hSn : wn.cell? ⟨g10, 0, none⟩ = some (.bool ngU) ∧ wn.cell? ⟨g10, 1, none⟩ = some (.slice AU nU cU) ∧ wn.cell? ⟨g10, 2, none⟩ = some (.slice DU dU eU) ∧ wn.cell? ⟨g11, 0, none⟩ = some (.bool ngV) ∧ wn.cell? ⟨g11, 1, none⟩ = some (.slice AV nV cV) ∧ wn.cell? ⟨g11, 2, none⟩ = some (.slice DV dV eV) ∧ wn.cell? ⟨g8, 0, none⟩ = some (.int .i64 p1.at_) ∧ wn.cell? ⟨g9, 0, none⟩ = some (.int .i64 p2.at_) := ⟨(hbn.cell (p := ⟨g10, 0, none⟩) hg_0).trans hS.1, (hbn.cell (p := ⟨g10, 1, none⟩) hg_0).trans hS.2.1, (hbn.cell (p := ⟨g10, 2, none⟩) hg_0).trans hS.2.2.1, (hbn.cell (p := ⟨g11, 0, none⟩) hg_1).trans hS.2.2.2.1, (hbn.cell (p := ⟨g11, 1, none⟩) hg_1).trans hS.2.2.2.2.1, (hbn.cell (p := ⟨g11, 2, none⟩) hg_1).trans hS.2.2.2.2.2.1, (hbn.cell (p := ⟨g8, 0, none⟩) hg_2).trans hS.2.2.2.2.2.2.1, (hbn.cell (p := ⟨g9, 0, none⟩) hg_3).trans hS.2.2.2.2.2.2.2⟩
      have hgn_0 := Nat.lt_of_lt_of_le hg_0 hbn.size
      have hgn_1 := Nat.lt_of_lt_of_le hg_1 hbn.size
      have hgn_2 := Nat.lt_of_lt_of_le hg_2 hbn.size
      have hgn_3 := Nat.lt_of_lt_of_le hg_3 hbn.size
      refine hK.out _ _ hSn ?_
      clear hK K hS HBc hg_0 hg_1 hg_2 hg_3
      try simp only [zA, zB, zC, Act.put, zD, zE, zF]
      have hS := hSn
      have HBc := HBn
      have hg_0 := hgn_0
      have hg_1 := hgn_1
      have hg_2 := hgn_2
      have hg_3 := hgn_3
      clear hSn HBn hbn hgn_0 hgn_1 hgn_2 hgn_3
      obtain ⟨wc, rfl⟩ : ∃ x : World, x = wn := ⟨_, rfl⟩
      refine HL.one (i := 14) (o := _) rfl (by kernel_rfl) (by decide) (by rfl) ?_
      intro K hK
      go_simp
      refine (QMUL_any ng1 ng2 A1 A2 D1 D2 n1 c1 d1 e1 n2 c2 d2 e2 _ _ (by omega) (by omega) (by omega) (by omega) _ wc.heap.size (Nat.le_refl _) H1 H2).mono ?_
      rintro e wn ⟨ng3, A3, n3, c3, D3, d3, e3, rfl, hH3, k3, m3, hbn⟩
      have H3 := Lib.hid hH3
      clear hH3
      clear H1 H2
      replace HU := Lib.hid (HU.out.to hbn (Nat.le_refl _) hbn.size)
      have HBn := Lib.hid (HBc.out.trans (hbn.mono HBc.out.size))
      have hSn : wn.cell? ⟨g10, 0, none⟩ = some (.bool ngU) ∧ wn.cell? ⟨g10, 1, none⟩ = some (.slice AU nU cU) ∧ wn.cell? ⟨g10, 2, none⟩ = some (.slice DU dU eU) ∧ wn.cell? ⟨g11, 0, none⟩ = some (.bool ngV) ∧ wn.cell? ⟨g11, 1, none⟩ = some (.slice AV nV cV) ∧ wn.cell? ⟨g11, 2, none⟩ = some (.slice DV dV eV) ∧ wn.cell? ⟨g8, 0, none⟩ = some (.int .i64 p1.at_) ∧ wn.cell? ⟨g9, 0, none⟩ = some (.int .i64 p2.at_) := ⟨(hbn.cell (p := ⟨g10, 0, none⟩) hg_0).trans hS.1, (hbn.cell (p := ⟨g10, 1, none⟩) hg_0).trans hS.2.1, (hbn.cell (p := ⟨g10, 2, none⟩) hg_0).trans hS.2.2.1, (hbn.cell (p := ⟨g11, 0, none⟩) hg_1).trans hS.2.2.2.1, (hbn.cell (p := ⟨g11, 1, none⟩) hg_1).trans hS.2.2.2.2.1, (hbn.cell (p := ⟨g11, 2, none⟩) hg_1).trans hS.2.2.2.2.2.1, (hbn.cell (p := ⟨g8, 0, none⟩) hg_2).trans hS.2.2.2.2.2.2.1, (hbn.cell (p := ⟨g9, 0, none⟩) hg_3).trans hS.2.2.2.2.2.2.2⟩
      have hgn_0 := Nat.lt_of_lt_of_le hg_0 hbn.size
      have hgn_1 := Nat.lt_of_lt_of_le hg_1 hbn.size
      have hgn_2 := Nat.lt_of_lt_of_le hg_2 hbn.size
      have hgn_3 := Nat.lt_of_lt_of_le hg_3 hbn.size
      refine hK.out _ _ hSn ?_
      clear hK K hS HBc hg_0 hg_1 hg_2 hg_3
      try simp only [zA, zB, zC, Act.put, zD, zE, zF]
      have hS := hSn
      have HBc := HBn
      have hg_0 := hgn_0
      have hg_1 := hgn_1
      have hg_2 := hgn_2
      have hg_3 := hgn_3
      clear hSn HBn hbn hgn_0 hgn_1 hgn_2 hgn_3
      obtain ⟨wc, rfl⟩ : ∃ x : World, x = wn := ⟨_, rfl⟩
      refine HL.one (i := 15) (o := _) rfl (by kernel_rfl) (by decide) (by rfl) ?_
      intro K hK
      go_simp
      refine (QADD_any ngU ng3 AU A3 DU D3 nU cU dU eU n3 c3 d3 e3 _ _ (by omega) (by omega) (by omega) (by omega) _ wc.heap.size (Nat.le_refl _) HU H3).mono ?_
      rintro e wn ⟨ng4, A4, n4, c4, D4, d4, e4, rfl, hH4, k4, m4, hbn⟩
      have H4 := Lib.hid hH4
      clear hH4
      clear HU H3
      have HBn := Lib.hid (HBc.out.trans (hbn.mono HBc.out.size))
      have hSn : wn.cell? ⟨g10, 0, none⟩ = some (.bool ngU) ∧ wn.cell? ⟨g10, 1, none⟩ = some (.slice AU nU cU) ∧ wn.cell? ⟨g10, 2, none⟩ = some (.slice DU dU eU) ∧ wn.cell? ⟨g11, 0, none⟩ = some (.bool ngV) ∧ wn.cell? ⟨g11, 1, none⟩ = some (.slice AV nV cV) ∧ wn.cell? ⟨g11, 2, none⟩ = some (.slice DV dV eV) ∧ wn.cell? ⟨g8, 0, none⟩ = some (.int .i64 p1.at_) ∧ wn.cell? ⟨g9, 0, none⟩ = some (.int .i64 p2.at_) := ⟨(hbn.cell (p := ⟨g10, 0, none⟩) hg_0).trans hS.1, (hbn.cell (p := ⟨g10, 1, none⟩) hg_0).trans hS.2.1, (hbn.cell (p := ⟨g10, 2, none⟩) hg_0).trans hS.2.2.1, (hbn.cell (p := ⟨g11, 0, none⟩) hg_1).trans hS.2.2.2.1, (hbn.cell (p := ⟨g11, 1, none⟩) hg_1).trans hS.2.2.2.2.1, (hbn.cell (p := ⟨g11, 2, none⟩) hg_1).trans hS.2.2.2.2.2.1, (hbn.cell (p := ⟨g8, 0, none⟩) hg_2).trans hS.2.2.2.2.2.2.1, (hbn.cell (p := ⟨g9, 0, none⟩) hg_3).trans hS.2.2.2.2.2.2.2⟩
      have hgn_0 := Nat.lt_of_lt_of_le hg_0 hbn.size
      have hgn_1 := Nat.lt_of_lt_of_le hg_1 hbn.size
      have hgn_2 := Nat.lt_of_lt_of_le hg_2 hbn.size
      have hgn_3 := Nat.lt_of_lt_of_le hg_3 hbn.size
      refine hK.out _ _ hSn ?_
      clear hK K hS HBc hg_0 hg_1 hg_2 hg_3
      try simp only [zA, zB, zC, Act.put, zD, zE, zF]
      have hS := hSn
      have HBc := HBn
      have hg_0 := hgn_0
      have hg_1 := hgn_1
      have hg_2 := hgn_2
      have hg_3 := hgn_3
      clear hSn HBn hbn hgn_0 hgn_1 hgn_2 hgn_3
      obtain ⟨wc, rfl⟩ : ∃ x : World, x = wn := ⟨_, rfl⟩
      have hhx := (HBc.out.block (g + 1) (blk_lt HXb.out)).trans HXb.out
      have HBd := Lib.hid (HBb.out.trans (HBc.out.mono HBb.out.size))
      obtain ⟨hr0, hr1, hr2, hf0, hf1, hf2⟩ := three_cells hhx
      have HHX := Lib.hid hhx
      clear hhx
      refine HL.done (by kernel_rfl) ?_
      clear hS
      simp only [List.drop_succ_cons, List.drop_zero]
      go_wp2_with fail
      refine end_rat rfl rfl rfl hr0 hr1 hr2 ?_
      rw [HVV.out]
      exact outQ_set (q := ptV p1 + (ptV p2 - ptV p1) * (((i - p1.at_ : Int) : Rat) / ((p2.at_ - p1.at_ : Int) : Rat))) H4.out.1.1 (by have := HG9.out; omega) ⟨_, _, HHX.out⟩ H4.out.1.2 H4.out.2 HBd.out (by omega) (by omega)
      -- H4
end Go.Proofs.YtkmcohnhanphdaaGreatDoor
/- num.Rat.Ratio with many digits; edit.written. -/
namespace Go.Proofs.YtkmcohnhanphdaaGreatDoor
open Go.RowKit Go.Dw
attribute [local go_sem ↓] Go.wp_at_zero Go.wp_at_succ
set_option maxRecDepth 100000 in
set_option maxHeartbeats 2000000 in
theorem QRATIO_big (neg : Bool) (A D : Option Addr) (n c m d : Nat) (q : Rat) (most : Nat) (hmost : most ≤ 9000000000000000000) (hn : n ≤ 1000000) (hm : m ≤ 1000000) (w : World) (B : Nat) (hB : B ≤ w.heap.size) (hh : Hid (RatAt w B neg A n c D m d q)) :
    Calls Tryz.prog 139 #[.agg #[.bool neg, .slice A n c, .slice D m d], .int .i64 most] w fun e w' => e = .returned (ratT q most) ∧ Below w.heap.size w w' := by
  obtain ⟨W, gx, hW, hgx, HHW, HBW, HSW⟩ := boxes2 w (.cells #[.bool neg, .slice A n c, .slice D m d] 88) (.cells #[.string ⟨#[]⟩, .string ⟨#[]⟩] 66)
  have HGX := Lib.hid hgx
  obtain ⟨x0, x1, x2, _, _, _⟩ := three_cells HHW.out.1
  have hgw := blk_lt HHW.out.2
  have HHR := Lib.hid HHW.out.2
  have HSZ := Lib.hid HBW.out.size
  have HRW := Lib.hid (hh.out.to HBW.out hB (by have := HSW.out; omega))
  have HNEG := Lib.hid hh.out.1.1
  go_enter Tryz.func139, Tryz.ntmps139
  go_upto_region 1 with (fail)
  rw [← hW, ← hgx]
  clear hW hgx HHW
  obtain ⟨s, hs⟩ : ∃ s : ByteArray, s = ⟨(Lib.decDigits q.num.natAbs).toArray⟩ := ⟨_, rfl⟩
  obtain ⟨t, ht⟩ : ∃ s : ByteArray, s = ⟨(Lib.decDigits q.den).toArray⟩ := ⟨_, rfl⟩
  have HSS := Lib.hid hs
  have HTT := Lib.hid ht
  have HLS : Hid (s.size = (Lib.decDigits q.num.natAbs).length) := by show _ = _; rw [hs]; simp [ByteArray.size]
  have HLT : Hid (t.size = (Lib.decDigits q.den).length) := by show _ = _; rw [ht]; simp [ByteArray.size]
  clear hs ht
  obtain ⟨W, rfl⟩ : ∃ Wx : World, Wx = W := ⟨_, rfl⟩
  refine wp_region_text 9 (fun x => x.cell? ⟨gx, 0, none⟩ = some (.bool neg) ∧ x.cell? ⟨gx, 1, none⟩ = some (.slice A n c) ∧ x.cell? ⟨gx, 2, none⟩ = some (.slice D m d)) (by kernel_rfl) (by kernel_rfl) ?_
  have hS : W.drew.cell? ⟨gx, 0, none⟩ = some (.bool neg) ∧ W.drew.cell? ⟨gx, 1, none⟩ = some (.slice A n c) ∧ W.drew.cell? ⟨gx, 2, none⟩ = some (.slice D m d) := ⟨x0, x1, x2⟩
  have hS0 := And.intro x0 (And.intro x1 x2)
  refine HT.take (i := 0) (oi := _) (v := ?_) rfl (by kernel_rfl) (by kernel_rfl) (by decide) (fun _ _ _ h => h) (Or.inl ⟨by rfl, ?_⟩) hS ?_
  rotate_left
  · intro wz
    go_simp
    try with_reducible rfl
  simp only [zA, zB, zC, Act.put, zD, zE, zF]
  refine HT.take (i := 1) (oi := _) (v := ?_) rfl (by kernel_rfl) (by kernel_rfl) (by decide) (fun _ _ _ h => h) (Or.inl ⟨by rfl, ?_⟩) hS ?_
  rotate_left
  · intro wz
    go_simp
    try with_reducible rfl
  simp only [zA, zB, zC, Act.put, zD, zE, zF]
  refine HT.load (i := 2) (oi := _) (v := ?_) rfl (by kernel_rfl) (by kernel_rfl) (by decide) (fun _ _ _ h => h) (by kernel_rfl) (Or.inl ⟨by rfl, ?_⟩) hS ?_
  rotate_left
  · intro wz hwz
    try dsimp only at hwz
    go_simp
    try with_reducible rfl
  simp only [zA, zB, zC, Act.put, zD, zE, zF]
  refine HT.take (i := 4) (oi := _) (v := ?_) rfl (by kernel_rfl) (by kernel_rfl) (by decide) (fun _ _ _ h => h) (Or.inl ⟨by rfl, ?_⟩) hS ?_
  rotate_left
  · intro wz
    go_simp
    try with_reducible rfl
  simp only [zA, zB, zC, Act.put, zD, zE, zF]
  refine HT.load (i := 5) (oi := _) (v := ?_) rfl (by kernel_rfl) (by kernel_rfl) (by decide) (fun _ _ _ h => h) (by kernel_rfl) (Or.inl ⟨by rfl, ?_⟩) hS ?_
  rotate_left
  · intro wz hwz
    try dsimp only at hwz
    go_simp
    try with_reducible rfl
  simp only [zA, zB, zC, Act.put, zD, zE, zF]
  refine HT.one (i := 3) (o := _) rfl (by kernel_rfl) (by decide) (by rfl) ?_
  intro K hK
  go_simp
  refine (NTEXT_any A n c _ hn _ W.heap.size (by exact Nat.le_refl _) (by exact Lib.hid HRW.out.1.2)).mono ?_
  rintro e w1 ⟨rfl, hb1⟩
  replace hb1 : Below W.heap.size W w1 := below_undrew hb1
  rw [← HSS.out]
  have HB1 := Lib.hid hb1
  clear hb1
  refine hK.out _ _ (three_keep hS0 HB1.out (by dsimp only; omega) (by dsimp only; omega) (by dsimp only; omega)) ?_
  clear hK K hS
  have hS := three_keep hS0 HB1.out (by dsimp only; omega) (by dsimp only; omega) (by dsimp only; omega)
  try simp only [zA, zB, zC, Act.put, zD, zE, zF]
  refine HT.one (i := 6) (o := _) rfl (by kernel_rfl) (by decide) (by rfl) ?_
  intro K hK
  go_simp
  refine (NTEXT_any D m d _ hm _ w1.heap.size (Nat.le_refl _) (by exact Lib.hid (HRW.out.2.to HB1.out (Nat.le_refl _) HB1.out.size))).mono ?_
  rintro e w2 ⟨rfl, hb2⟩
  rw [← HTT.out]
  have HB2 := Lib.hid (HB1.out.trans (hb2.mono HB1.out.size))
  clear hb2
  refine hK.out _ _ (three_keep hS0 HB2.out (by dsimp only; omega) (by dsimp only; omega) (by dsimp only; omega)) ?_
  clear hK K hS
  have hS := three_keep hS0 HB2.out (by dsimp only; omega) (by dsimp only; omega) (by dsimp only; omega)
  try simp only [zA, zB, zC, Act.put, zD, zE, zF]
  refine HT.take (i := 7) (oi := _) (v := ?_) rfl (by kernel_rfl) (by kernel_rfl) (by decide) (fun _ _ _ h => h) (Or.inl ⟨by rfl, ?_⟩) hS ?_
  rotate_left
  · intro wz
    go_simp
    try with_reducible rfl
  simp only [zA, zB, zC, Act.put, zD, zE, zF]
  refine HT.take (i := 8) (oi := _) (v := ?_) rfl (by kernel_rfl) (by kernel_rfl) (by decide) (fun _ _ _ h => h) (Or.inl ⟨by rfl, ?_⟩) hS ?_
  rotate_left
  · intro wz
    go_simp
    try with_reducible rfl
  simp only [zA, zB, zC, Act.put, zD, zE, zF]
  have hhx := (HB2.out.block (gx + 1) hgw).trans HHR.out
  obtain ⟨hr0, hr1, hf0, hf1⟩ := two_cells hhx
  have HHX := Lib.hid hhx
  obtain ⟨z0, z1, z2⟩ := hS
  have hS := z0
  clear hhx z1 z2
  refine HT.done (by kernel_rfl) ?_
  clear hS
  simp only [List.drop_succ_cons, List.drop_zero]
  by_cases hls : most < s.size
  · have HFEW : Hid (fewT q most = false) := by show _ = _; unfold fewT; rw [decide_eq_false (by have := HLS.out; omega)]; rfl
    go_wp2_with fail
    refine end_ratio rfl rfl rfl hr0 hr1 ⟨?_, set2_below' (HBW.out.trans (HB2.out.mono HSZ.out)) (by have := HGX.out; omega)⟩
    unfold ratT
    rw [HFEW.out, if_neg (by simp)]
    rfl
  by_cases hlt : most < t.size
  · have HFEW : Hid (fewT q most = false) := by show _ = _; unfold fewT; rw [decide_eq_false (p := (Lib.decDigits q.den).length ≤ most) (by have := HLT.out; omega), Bool.and_false]
    go_wp2_with fail
    refine end_ratio rfl rfl rfl hr0 hr1 ⟨?_, set2_below' (HBW.out.trans (HB2.out.mono HSZ.out)) (by have := HGX.out; omega)⟩
    unfold ratT
    rw [HFEW.out, if_neg (by simp)]
    rfl
  · have HFEW : Hid (fewT q most = true) := by
      show _ = _; unfold fewT
      rw [decide_eq_true (by have := HLS.out; omega), decide_eq_true (by have := HLT.out; omega)]; rfl
    cases neg with
    | false =>
      have hz : ¬ q.num < 0 := by have := HNEG.out; simpa using this
      have HNT : Hid ((⟨(numT q).toArray⟩ : ByteArray) = s) := by show _ = _; unfold numT; rw [if_neg hz, HSS.out]; rfl
      clear hz
      go_wp2_with fail
      refine end_ratio rfl rfl rfl hr0 hr1 ⟨?_, set2_below' (HBW.out.trans (HB2.out.mono HSZ.out)) (by have := HGX.out; omega)⟩
      unfold ratT
      rw [HFEW.out, if_pos rfl, HNT.out, ← HTT.out]
      rfl
    | true =>
      have hz : q.num < 0 := by have := HNEG.out; simpa using this
      have HNT : Hid ((⟨(numT q).toArray⟩ : ByteArray) = ⟨#[45]⟩ ++ s) := by
        show _ = _; unfold numT; rw [if_pos hz, HSS.out]
        apply ByteArray.ext
        simp [ByteArray.data_append]
      clear hz
      go_wp2_with fail
      refine end_ratio rfl rfl rfl hr0 hr1 ⟨?_, set2_below' (HBW.out.trans (HB2.out.mono HSZ.out)) (by have := HGX.out; omega)⟩
      unfold ratT
      rw [HFEW.out, if_pos rfl, HNT.out, ← HTT.out]
      rfl
theorem dec_limbs {x k : Nat} (h : x < 4294967296 ^ k) : (Lib.decDigits x).length ≤ 10 * k + 1 := by
  refine dec_len (10 * k + 1) x (by omega) (Nat.lt_of_lt_of_le h ?_)
  refine Nat.le_trans (Nat.pow_le_pow_left (show 4294967296 ≤ 10 ^ 10 by decide) k) ?_
  rw [← Nat.pow_mul]
  exact Nat.pow_le_pow_right (by decide) (by omega)
theorem few_limbs {w : World} {B n c d e most : Nat} {ng : Bool} {A D : Option Addr} {q : Rat} (h : RatAt w B ng A n c D d e q) (hn : 10 * n + 1 ≤ most) (hd : 10 * d + 1 ≤ most) : fewT q most = true :=
  (few_iff q most).2 ⟨Nat.le_trans (dec_limbs h.1.2.lt_pow) hn, Nat.le_trans (dec_limbs h.2.lt_pow) hd⟩
theorem load_ratioq (w : World) (g : Nat) (v0 v1 : Value) (h0 : w.cell? ⟨g, 0, none⟩ = some v0) (h1 : w.cell? ⟨g, 1, none⟩ = some v1) :
    (loadVar 66 ⟨g, 0, none⟩).run Tryz.prog w = .ok (.agg #[v0, v1]) w := by
  simp [loadVar, go_sem, h0, h1]
theorem res_ratioq {fn : Func} {p : Tmp} (h : fn.results = #[.cell p 66]) {tmps : Array Value} {w : World} {g : Nat} {v0 v1 : Value} (hp : tmps.getD p undef = .pointer (some ⟨g, 0, none⟩))
    (h0 : w.cell? ⟨g, 0, none⟩ = some v0) (h1 : w.cell? ⟨g, 1, none⟩ = some v1) : (results fn tmps).run Tryz.prog w = .ok (.agg #[v0, v1]) w := by
  have hp' : tmps[p]?.getD undef = .pointer (some ⟨g, 0, none⟩) := by simpa using hp
  simp [results, h, hp', asAddr, load_ratioq w g v0 v1 h0 h1]
set_option maxRecDepth 100000 in
set_option maxHeartbeats 2000000 in
theorem WRITTEN_any (neg : Bool) (A D : Option Addr) (n c m d : Nat) (q : Rat) (hn : n ≤ 1000000) (hm : m ≤ 1000000) (w : World) (B : Nat) (hB : B ≤ w.heap.size) (hh : Hid (RatAt w B neg A n c D m d q)) :
    Calls Tryz.prog 98 #[.agg #[.bool neg, .slice A n c, .slice D m d]] w fun e w' => e = .returned (.agg #[.string (txN q), .string (txD q)]) ∧ Below w.heap.size w w' := by
  obtain ⟨W, gx, hW, hgx, HHW, HBW, HSW⟩ := boxes2 w (.cells #[.bool neg, .slice A n c, .slice D m d] 88) (.cells #[.string ⟨#[]⟩, .string ⟨#[]⟩] 66)
  have HGX := Lib.hid hgx
  obtain ⟨x0, x1, x2, _, _, _⟩ := three_cells HHW.out.1
  have hgw := blk_lt HHW.out.2
  have HHR := Lib.hid HHW.out.2
  have HSZ := Lib.hid HBW.out.size
  have HRW := Lib.hid (hh.out.to HBW.out hB (by have := HSW.out; omega))
  have HT : Hid (ratT q 1099511627776 = .tuple #[.agg #[.string (txN q), .string (txD q)], .bool true]) := by
    show _ = _
    unfold ratT
    rw [few_limbs hh.out (by omega) (by omega), if_pos rfl]
    rfl
  go_enter Tryz.func98, Tryz.ntmps98
  go_upto_region 1 with (fail)
  rw [← hW, ← hgx]
  clear hW hgx HHW
  go_wp2_with fail
  refine (QRATIO_big neg A D n c m d q 1099511627776 (by decide) hn hm W W.heap.size (Nat.le_refl _) HRW).mono ?_
  rintro e w1 ⟨rfl, hb1⟩
  rw [HT.out]
  have HB1 := Lib.hid (HBW.out.trans (hb1.mono HBW.out.size))
  have HH1 := Lib.hid ((hb1.block (gx + 1) hgw).trans HHR.out)
  clear hb1
  go_upto_region 2 with (fail)
  obtain ⟨W2, g2, hW2, hg2, HH2, HBW2, HSW2⟩ := cell_new w1 66 #[.string (txN q), .string (txD q)]
  rw [← hW2, ← hg2]
  clear hW2 hg2
  have hhx := (HBW2.out.block (gx + 1) (blk_lt HH1.out)).trans HH1.out
  obtain ⟨hr0, hr1, hf0, hf1⟩ := two_cells hhx
  obtain ⟨y0, y1, _, _⟩ := two_cells HH2.out
  have HB2 := Lib.hid (HB1.out.trans (HBW2.out.mono HB1.out.size))
  clear hhx
  go_wp2_with fail
  exact bodyPost_ret (res_ratioq rfl rfl (two_set' _ _ _ _ _ _ hr0 hr1).1 (two_set' _ _ _ _ _ _ hr0 hr1).2) rfl ⟨rfl, set2_below' HB2.out (by have := HGX.out; omega)⟩
end Go.Proofs.YtkmcohnhanphdaaGreatDoor
/- edit.value whole; whole numbers in a region that is walked once. -/
namespace Go.Proofs.YtkmcohnhanphdaaGreatDoor
open Go.RowKit Go.Dw
theorem EVALUE_any (c : Cp) (A : Option Addr) (n cap : Nat) (i : Int) (hi : -9223372036854775808 ≤ i ∧ i ≤ 9223372036854775807) (hlen : c.len ≤ 100000) (hok : Hid (EnvOk c.len c.env)) (w : World) (B : Nat) (hB : B ≤ w.heap.size) (hh : Hid (PtsAt w B A n c.env)) :
    Calls Tryz.prog 66 #[cpV c (.slice A n cap), .int .i64 i] w (OutQ w (envV c.env i) 20000 20000) := by
  by_cases h : (envK c.env i < c.env.length ∧ (ptOf c.env (envK c.env i)).at_ = i) ∨ envK c.env i = 0 ∨ envK c.env i = c.env.length
  · exact EVALUE_flat c A n cap i hi hok h w B hB hh
  · have := envK_le c.env i
    exact EVALUE_line c A n cap i hlen hok ⟨by omega, by omega, fun h2 => h (.inl ⟨by omega, h2⟩)⟩ w B hB hh
def IV (z : Int) (k : Nat) (v : Value) (w : World) : Prop := ∃ ng A n c, v = .agg #[.bool ng, .slice A n c] ∧ IntAt w w.heap.size ng A n c z ∧ n ≤ k
theorem IV.below {z : Int} {k : Nat} {v : Value} {w w' : World} (h : IV z k v w) (hb : Below w.heap.size w w') : IV z k v w' := by
  obtain ⟨ng, A, n, c, h1, h2, h3⟩ := h
  exact ⟨ng, A, n, c, h1, h2.to hb (Nat.le_refl _) hb.size, h3⟩
def IBox (w : World) (g : Nat) (z : Int) (k : Nat) : Prop := ∃ ng A n c, w.heap[g]? = some (.cells #[.bool ng, .slice A n c] 82 (0, 0)) ∧ IntAt w w.heap.size ng A n c z ∧ n ≤ k
theorem IBox.below {w w' : World} {g k : Nat} {z : Int} (h : IBox w g z k) (hb : Below w.heap.size w w') : IBox w' g z k := by
  obtain ⟨ng, A, n, c, h1, h2, h3⟩ := h
  exact ⟨ng, A, n, c, (hb.block g (blk_lt h1)).trans h1, h2.to hb (Nat.le_refl _) hb.size, h3⟩
theorem IBox.store {w : World} {g n c k : Nat} {z : Int} {ng : Bool} {A : Option Addr} {o0 o1 : Value} (hg : w.heap[g]? = some (.cells #[o0, o1] 82 (0, 0))) (h : IntAt w w.heap.size ng A n c z) (hk : n ≤ k) :
    IBox ((w.setCell ⟨g, 0, none⟩ (.bool ng)).setCell ⟨g, 1, none⟩ (.slice A n c)) g z k :=
  ⟨ng, A, n, c, box2_heap hg, h.box2 ⟨_, _, hg⟩ (by decide) _ _, hk⟩
theorem ibox_store {w : World} {g n c k : Nat} {z : Int} {ng : Bool} {A : Option Addr} {o0 o1 : Value} (hg : w.heap[g]? = some (.cells #[o0, o1] 82 (0, 0))) (h : IntAt w w.heap.size ng A n c z) (hk : n ≤ k) :
    ∃ V, V = (w.setCell ⟨g, 0, none⟩ (.bool ng)).setCell ⟨g, 1, none⟩ (.slice A n c) ∧ Hid (IBox V g z k) ∧ Hid (∀ N w0, N ≤ g → Below N w0 w → Below N w0 V) :=
  ⟨_, rfl, IBox.store hg h hk, fun N w0 hN hb => box2_below hb hN⟩
theorem IntAt.ofNat {w : World} {B n c x : Nat} {A : Option Addr} (h : NumAt .u32 164 4294967296 w B A n c x) : IntAt w B false A n c (x : Int) := ⟨by simp, h⟩
theorem IntAt.limbs {w : World} {B n c m : Nat} {ng : Bool} {A : Option Addr} {z : Int} (h : IntAt w B ng A n c z) (hz : z.natAbs < 4294967296 ^ m) : n ≤ m := h.2.len_le (by decide) hz
theorem IntAt.lt_pow {w : World} {B n c k : Nat} {ng : Bool} {A : Option Addr} {z : Int} (h : IntAt w B ng A n c z) (hk : n ≤ k) : z.natAbs < 4294967296 ^ k := Nat.lt_of_lt_of_le h.2.lt_pow (Nat.pow_le_pow_right (by decide) hk)
theorem RatAt.lt_pow {w : World} {B n c d e k l : Nat} {ng : Bool} {A D : Option Addr} {q : Rat} (h : RatAt w B ng A n c D d e q) (hk : n ≤ k) (hl : d ≤ l) : q.num.natAbs < 4294967296 ^ k ∧ q.den < 4294967296 ^ l :=
  ⟨h.1.lt_pow hk, Nat.lt_of_lt_of_le h.2.lt_pow (Nat.pow_le_pow_right (by decide) hl)⟩
end Go.Proofs.YtkmcohnhanphdaaGreatDoor
