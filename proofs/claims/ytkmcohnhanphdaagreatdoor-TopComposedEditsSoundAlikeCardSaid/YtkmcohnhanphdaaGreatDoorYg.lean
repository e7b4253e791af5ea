/- num.Int: Of, Small, Sign, Minus, Mul, Cmp, Parse, Text. -/
import Derived.Test.YtkmcohnhanphdaaGreatDoorYf
import Derived.Test.YtkmcohnhanphdaaGreatDoorXa
set_option linter.unusedSimpArgs false
set_option linter.unusedVariables false
namespace Go.Proofs.YtkmcohnhanphdaaGreatDoor
open Go.RowKit Go.Dw
def IntAt (w : World) (B : Nat) (neg : Bool) (A : Option Addr) (n c : Nat) (z : Int) : Prop := neg = decide (z < 0) ∧ NumAt .u32 164 4294967296 w B A n c z.natAbs
def OutI (w : World) (z : Int) (k : Nat) (e : Ending) (w' : World) : Prop := ∃ neg A n c, e = .returned (.agg #[.bool neg, .slice A n c]) ∧ IntAt w' w'.heap.size neg A n c z ∧ n ≤ k ∧ Below w.heap.size w w'
theorem IntAt.below {w w' : World} {B B' : Nat} {neg : Bool} {A : Option Addr} {n c : Nat} {z : Int} (h : IntAt w B neg A n c z) (hb : Below B' w w') (hB : B ≤ B') : IntAt w' B neg A n c z := ⟨h.1, h.2.below hb hB⟩
theorem IntAt.mono {w : World} {B B' : Nat} {neg : Bool} {A : Option Addr} {n c : Nat} {z : Int} (h : IntAt w B neg A n c z) (hB : B ≤ B') : IntAt w B' neg A n c z := ⟨h.1, h.2.mono hB⟩
theorem IntAt.to {w w' : World} {B B' : Nat} {neg : Bool} {A : Option Addr} {n c : Nat} {z : Int} (h : IntAt w B neg A n c z) (hb : Below B' w w') (hB : B ≤ B') (hC : B ≤ w'.heap.size) : IntAt w' w'.heap.size neg A n c z := ⟨h.1, h.2.to hb hB hC⟩
theorem two_set' (w : World) (g : Nat) (u0 u1 v0 v1 : Value) (h0 : w.cell? ⟨g, 0, none⟩ = some u0) (h1 : w.cell? ⟨g, 1, none⟩ = some u1) :
    ((w.setCell ⟨g, 0, none⟩ v0).setCell ⟨g, 1, none⟩ v1).cell? ⟨g, 0, none⟩ = some v0 ∧ ((w.setCell ⟨g, 0, none⟩ v0).setCell ⟨g, 1, none⟩ v1).cell? ⟨g, 1, none⟩ = some v1 := by
  constructor
  · rw [World.cell?_setCell_other _ _ _ _ (by simp)]
    exact World.cell?_setCell_same w _ _ h0
  · refine World.cell?_setCell_same _ _ _ (u := u1) ?_
    rw [World.cell?_setCell_other _ _ _ _ (by simp)]
    exact h1
theorem set2_below' {w w' : World} {B g : Nat} {v0 v1 : Value} (h : Below B w w') (hg : B ≤ g) : Below B w ((w'.setCell ⟨g, 0, none⟩ v0).setCell ⟨g, 1, none⟩ v1) :=
  (h.setCell (p := ⟨g, 0, none⟩) hg v0).setCell (p := ⟨g, 1, none⟩) hg v1
theorem load_intn (w : World) (g : Nat) (v0 v1 : Value) (h0 : w.cell? ⟨g, 0, none⟩ = some v0) (h1 : w.cell? ⟨g, 1, none⟩ = some v1) :
    (loadVar 82 ⟨g, 0, none⟩).run Tryz.prog w = .ok (.agg #[v0, v1]) w := by
  simp [loadVar, go_sem, h0, h1]
theorem res_intn {fn : Func} {p : Tmp} (h : fn.results = #[.cell p 82]) {tmps : Array Value} {w : World} {g : Nat} {v0 v1 : Value} (hp : tmps.getD p undef = .pointer (some ⟨g, 0, none⟩))
    (h0 : w.cell? ⟨g, 0, none⟩ = some v0) (h1 : w.cell? ⟨g, 1, none⟩ = some v1) : (results fn tmps).run Tryz.prog w = .ok (.agg #[v0, v1]) w := by
  have hp' : tmps[p]?.getD undef = .pointer (some ⟨g, 0, none⟩) := by simpa using hp
  simp [results, h, hp', asAddr, load_intn w g v0 v1 h0 h1]
theorem end_intn {fn : Func} {R : Ending → World → Prop} {a : Act} {w : World} {p : Tmp} {g : Nat} {v0 v1 o0 o1 : Value} (h : fn.results = #[.cell p 82]) (hp : a.tmps.getD p undef = .pointer (some ⟨g, 0, none⟩)) (hd : a.defers = []) (c0 : w.cell? ⟨g, 0, none⟩ = some o0) (c1 : w.cell? ⟨g, 1, none⟩ = some o1)
    (hR : R (.returned (.agg #[v0, v1])) ((w.setCell ⟨g, 0, none⟩ v0).setCell ⟨g, 1, none⟩ v1)) : bodyPost Tryz.prog fn R .ret a ((w.setCell ⟨g, 0, none⟩ v0).setCell ⟨g, 1, none⟩ v1) :=
  bodyPost_ret (res_intn h hp (two_set' w g o0 o1 v0 v1 c0 c1).1 (two_set' w g o0 o1 v0 v1 c0 c1).2) hd hR
theorem outI_set {w w1 : World} {gx : Nat} {neg : Bool} {A : Option Addr} {n c k : Nat} {z : Int} (hn : neg = decide (z < 0)) (hg : w.heap.size ≤ gx) (ht : TyAt 82 w1 gx) (h : NumAt .u32 164 4294967296 w1 w1.heap.size A n c z.natAbs) (hb : Below w.heap.size w w1) (hk : n ≤ k) :
    OutI w z k (.returned (.agg #[.bool neg, .slice A n c])) ((w1.setCell ⟨gx, 0, none⟩ (.bool neg)).setCell ⟨gx, 1, none⟩ (.slice A n c)) := by
  refine ⟨_, _, _, _, rfl, ⟨hn, ?_⟩, hk, set2_below' hb hg⟩
  refine NumAt.mono ?_ (show w1.heap.size ≤ _ by simp)
  exact (h.set_far (p := ⟨gx, 0, none⟩) ht (by decide) _).set_far (p := ⟨gx, 1, none⟩) (ht.set _ _) (by decide) _
theorem cell_new (w : World) (T : TypeId) (cs : Array Value) : ∃ W gx, W = w.alloc (.cells cs T) ∧ gx = w.heap.size ∧ Hid (W.heap[gx]? = some (.cells cs T (0, 0))) ∧ Hid (Below w.heap.size w W) ∧ Hid (W.heap.size = w.heap.size + 1) :=
  ⟨_, _, rfl, rfl, heap_alloc_new _ _, (Below.refl _ _).alloc (Nat.le_refl _) _, by show _ = _; simp⟩
set_option maxRecDepth 100000 in
set_option maxHeartbeats 1000000 in
theorem IOF_any (z : Int) (h1 : -9223372036854775808 ≤ z) (h2 : z ≤ 9223372036854775807) (w : World) : Calls Tryz.prog 32 #[.int .i64 z] w (OutI w z 2) := by
  obtain ⟨W, gx, hW, hgx, HHW, HBW, HSW⟩ := cell_new w 82 #[.bool false, .slice none 0 0]
  have HGX := Lib.hid hgx
  obtain ⟨x, hx⟩ : ∃ x, z.natAbs = x := ⟨_, rfl⟩
  have HX := Lib.hid hx
  have hx9 : x < 18446744073709551616 := by omega
  by_cases hz : z < 0
  · have hn : IntKind.u64.wrap (-(IntKind.u64.wrap z)) = (x : Int) := by rw [IntKind.wrap_u64, IntKind.wrap_u64]; omega
    have HZ : Hid (true = decide (z < 0)) := by show _ = _; simp; exact hz
    clear hx
    go_enter Tryz.func32, Tryz.ntmps32
    go_wp2_with fail
    rw [← hW, ← hgx]
    clear hW hgx
    refine (NATOF_any x hx9 _).mono ?_
    rintro e w1 ⟨A1, n1, c1, rfl, h3, k1, hb1⟩
    have H3 := Lib.hid h3
    have HB1 := Lib.hid hb1
    have hhx := (hb1.block gx (blk_lt HHW.out)).trans HHW.out
    have hc0 := own_cell1 hhx 0
    have hc1 := own_cell1 hhx 1
    have hf0 := frozen_of_row w1 gx 0 _ _ hhx
    have hf1 := frozen_of_row w1 gx 1 _ _ hhx
    have hgx1 : gx < w1.heap.size := blk_lt hhx
    have HHX := Lib.hid hhx
    simp only [List.getElem?_toArray, List.getElem?_cons_zero, List.getElem?_cons_succ] at hc0 hc1
    clear hhx
    clear h3 hb1
    go_wp2_with fail
    exact end_intn rfl rfl rfl hc0 hc1 (outI_set HZ.out (Nat.le_of_eq HGX.out.symm) ⟨_, _, HHX.out⟩ (by rw [HX.out]; exact H3.out) (HBW.out.trans (HB1.out.mono (by rw [HSW.out]; omega))) k1)
  · have hn : IntKind.u64.wrap z = (x : Int) := by rw [IntKind.wrap_u64]; omega
    have HZ : Hid (false = decide (z < 0)) := by show _ = _; simp; omega
    clear hx
    go_enter Tryz.func32, Tryz.ntmps32
    go_wp2_with fail
    rw [← hW, ← hgx]
    clear hW hgx
    refine (NATOF_any x hx9 _).mono ?_
    rintro e w1 ⟨A1, n1, c1, rfl, h3, k1, hb1⟩
    have H3 := Lib.hid h3
    have HB1 := Lib.hid hb1
    have hhx := (hb1.block gx (blk_lt HHW.out)).trans HHW.out
    have hc0 := own_cell1 hhx 0
    have hc1 := own_cell1 hhx 1
    have hf0 := frozen_of_row w1 gx 0 _ _ hhx
    have hf1 := frozen_of_row w1 gx 1 _ _ hhx
    have hgx1 : gx < w1.heap.size := blk_lt hhx
    have HHX := Lib.hid hhx
    simp only [List.getElem?_toArray, List.getElem?_cons_zero, List.getElem?_cons_succ] at hc0 hc1
    clear hhx
    clear h3 hb1
    go_wp2_with fail
    exact end_intn rfl rfl rfl hc0 hc1 (outI_set HZ.out (Nat.le_of_eq HGX.out.symm) ⟨_, _, HHX.out⟩ (by rw [HX.out]; exact H3.out) (HBW.out.trans (HB1.out.mono (by rw [HSW.out]; omega))) k1)
def smallI (z : Int) : Int × Bool := if z.natAbs < 9223372036854775808 then (z, true) else (0, false)
set_option maxRecDepth 100000 in
set_option maxHeartbeats 1000000 in
theorem ISMALL_any (neg : Bool) (A : Option Addr) (n c : Nat) (z : Int) (w : World) (B : Nat) (hB : B ≤ w.heap.size) (hh : Hid (IntAt w B neg A n c z)) :
    Calls Tryz.prog 75 #[.agg #[.bool neg, .slice A n c]] w fun e w' => e = .returned (.tuple #[.int .i64 (smallI z).1, .bool (smallI z).2]) ∧ Below w.heap.size w w' := by
  obtain ⟨W, gx, hW, hgx, HHW, HBW, HSW⟩ := cell_new w 82 #[.bool neg, .slice A n c]
  have hc0 := own_cell1 HHW.out 0
  have hc1 := own_cell1 HHW.out 1
  simp only [List.getElem?_toArray, List.getElem?_cons_zero, List.getElem?_cons_succ] at hc0 hc1
  have HGX := Lib.hid hgx
  have HNW : Hid (NumAt .u32 164 4294967296 W W.heap.size A n c z.natAbs) := hh.out.2.to HBW.out hB (by have := HSW.out; omega)
  have HNEG := Lib.hid hh.out.1
  obtain ⟨x, hx⟩ : ∃ x, z.natAbs = x := ⟨_, rfl⟩
  have HX := Lib.hid hx
  rw [hx] at HNW
  clear hx
  by_cases h1 : x < 18446744073709551616
  · go_enter Tryz.func75, Tryz.ntmps75
    go_wp2_with fail
    rw [← hW, ← hgx]
    clear hW hgx
    refine (NSMALL_yes A n c x h1 _ _ HNW).mono ?_
    rintro e w1 ⟨rfl, hb1⟩
    have HB1 := Lib.hid (HBW.out.trans (hb1.mono (by rw [HSW.out]; omega)))
    have hd0 := (hb1.cell (p := ⟨gx, 0, none⟩) (blk_lt HHW.out)).trans hc0
    clear hb1 hc0 hc1
    by_cases h2 : x < 9223372036854775808
    · have hge : decide ((9223372036854775808 : Int) ≤ (x : Int)) = false := by simp; omega
      cases neg with
      | true =>
        go_wp2_with fail
        go_ret2
        refine ⟨?_, HB1.out⟩
        have hz : z < 0 := by have := HNEG.out; simpa using this
        have e : (smallI z) = (-(x : Int), true) := by unfold smallI; rw [if_pos (by rw [HX.out]; exact h2)]; congr 1; have := HX.out; omega
        rw [e]
        rfl
      | false =>
        go_wp2_with fail
        go_ret2
        refine ⟨?_, HB1.out⟩
        have hz : ¬ z < 0 := by have := HNEG.out; simpa using this
        have e : (smallI z) = ((x : Int), true) := by unfold smallI; rw [if_pos (by rw [HX.out]; exact h2)]; congr 1; have := HX.out; omega
        rw [e]
        rfl
    · have hge : decide ((9223372036854775808 : Int) ≤ (x : Int)) = true := by simp; omega
      go_wp2_with fail
      go_ret2
      exact ⟨by unfold smallI; rw [if_neg (by rw [HX.out]; exact h2)]; rfl, HB1.out⟩
  · have h1' : 18446744073709551616 ≤ x := by omega
    go_enter Tryz.func75, Tryz.ntmps75
    go_wp2_with fail
    rw [← hW, ← hgx]
    clear hW hgx
    refine (NSMALL_no A n c x h1' _ _ HNW).mono ?_
    rintro e w1 ⟨rfl, hb1⟩
    have HB1 := Lib.hid (HBW.out.trans (hb1.mono (by rw [HSW.out]; omega)))
    clear hb1 hc0 hc1
    go_wp2_with fail
    go_ret2
    exact ⟨by unfold smallI; rw [if_neg (by rw [HX.out]; omega)]; rfl, HB1.out⟩
set_option maxRecDepth 100000 in
set_option maxHeartbeats 1000000 in
theorem ISIGN_any (neg : Bool) (A : Option Addr) (n c : Nat) (z : Int) (w : World) (B : Nat) (hh : Hid (IntAt w B neg A n c z)) :
    Calls Tryz.prog 29 #[.agg #[.bool neg, .slice A n c]] w fun e w' => e = .returned (.int .i64 z.sign) ∧ Below w.heap.size w w' := by
  have HNEG := Lib.hid hh.out.1
  have HPOS := Lib.hid (hh.out.2.pos_iff (by omega))
  have HBW := Lib.hid ((Below.refl w.heap.size w).alloc (Nat.le_refl _) (.cells #[.bool neg, .slice A n c] 82))
  cases neg with
  | true =>
    have hz : z < 0 := by have := HNEG.out; simpa using this
    go_enter Tryz.func29, Tryz.ntmps29
    go_wp2_with fail
    go_ret
    exact ⟨by rw [Int.sign_eq_neg_one_of_neg hz]; rfl, HBW.out⟩
  | false =>
    have hz : ¬ z < 0 := by have := HNEG.out; simpa using this
    have HZ := Lib.hid hz
    clear hz
    by_cases h0 : n = 0
    · subst h0
      have h1 : z = 0 := by have := HPOS.out; have := HZ.out; omega
      have H1 := Lib.hid h1
      clear h1
      go_enter Tryz.func29, Tryz.ntmps29
      go_wp2_with fail
      go_ret
      exact ⟨by rw [H1.out]; rfl, HBW.out⟩
    · have h1 : 0 < z := by have := HPOS.out; have := HZ.out; omega
      have hb : ((n : Int) == 0) = false := by simp; omega
      go_enter Tryz.func29, Tryz.ntmps29
      go_wp2_with fail
      go_ret
      exact ⟨by rw [Int.sign_eq_one_of_pos h1]; rfl, HBW.out⟩
theorem boxes3 (w : World) (o1 o2 o3 : Obj) : ∃ W gx, W = ((w.alloc o1).alloc o2).alloc o3 ∧ gx = w.heap.size ∧ Hid (W.heap[gx]? = some o1 ∧ W.heap[gx + 1]? = some o2 ∧ W.heap[gx + 1 + 1]? = some o3) ∧ Hid (Below w.heap.size w W) ∧ Hid (W.heap.size = w.heap.size + 3) := by
  refine ⟨_, _, rfl, rfl, ⟨?_, ?_, ?_⟩, ?_, ?_⟩
  · rw [Below.heap_alloc _ _ _ (by simp; omega), Below.heap_alloc _ _ _ (by simp)]
    exact heap_alloc_new _ _
  · rw [Below.heap_alloc _ _ _ (by simp)]
    have := heap_alloc_new (w.alloc o1) o2
    simpa using this
  · have := heap_alloc_new ((w.alloc o1).alloc o2) o3
    simpa using this
  · exact (((Below.refl _ w).alloc (Nat.le_refl _) _).alloc (by simp) _).alloc (by simp; omega) _
  · show _ = _; simp
theorem boxes2 (w : World) (o1 o2 : Obj) : ∃ W gx, W = (w.alloc o1).alloc o2 ∧ gx = w.heap.size ∧ Hid (W.heap[gx]? = some o1 ∧ W.heap[gx + 1]? = some o2) ∧ Hid (Below w.heap.size w W) ∧ Hid (W.heap.size = w.heap.size + 2) := by
  refine ⟨_, _, rfl, rfl, ⟨?_, ?_⟩, ?_, ?_⟩
  · rw [Below.heap_alloc _ _ _ (by simp)]
    exact heap_alloc_new _ _
  · have := heap_alloc_new (w.alloc o1) o2
    simpa using this
  · exact ((Below.refl _ w).alloc (Nat.le_refl _) _).alloc (by simp) _
  · show _ = _; simp
theorem two_cells {w : World} {g : Nat} {v0 v1 : Value} {T : TypeId} (h : w.heap[g]? = some (.cells #[v0, v1] T (0, 0))) : w.cell? ⟨g, 0, none⟩ = some v0 ∧ w.cell? ⟨g, 1, none⟩ = some v1 ∧ w.frozen? ⟨g, 0, none⟩ = false ∧ w.frozen? ⟨g, 1, none⟩ = false := by
  refine ⟨?_, ?_, frozen_of_row w g 0 _ _ h, frozen_of_row w g 1 _ _ h⟩
  · rw [own_cell1 h 0]; rfl
  · rw [own_cell1 h 1]; rfl
set_option maxRecDepth 100000 in
set_option maxHeartbeats 1000000 in
theorem IMINUS_any (neg : Bool) (A : Option Addr) (n c : Nat) (z : Int) (w : World) (B : Nat) (hB : B ≤ w.heap.size) (hh : Hid (IntAt w B neg A n c z)) :
    Calls Tryz.prog 116 #[.agg #[.bool neg, .slice A n c]] w (OutI w (-z) n) := by
  have HNEG := Lib.hid hh.out.1
  have HPOS := Lib.hid (hh.out.2.pos_iff (by omega))
  cases neg with
  | true =>
    have HZ : Hid (false = decide (-z < 0)) := by have h1 := HNEG.out; show _ = _; simp at h1 ⊢; omega
    go_enter Tryz.func116, Tryz.ntmps116
    go_wp2_with fail
    refine bodyPost_ret (v := .agg #[.bool false, .slice A n c]) (by simp [results, Tryz.results116, go_sem]) rfl ⟨_, _, _, _, rfl, ⟨HZ.out, ?_⟩, Nat.le_refl _, ((Below.refl _ w).alloc (Nat.le_refl _) _).alloc (by simp) _⟩
    rw [Int.natAbs_neg]
    exact hh.out.2.to (((Below.refl _ w).alloc (Nat.le_refl _) _).alloc (by simp) _) hB (by simp; omega)
  | false =>
    by_cases hn : 0 < n
    · have HZ : Hid (true = decide (-z < 0)) := by have h1 := HNEG.out; have h2 := HPOS.out; show _ = _; simp at h1 ⊢; omega
      have hd : decide ((0 : Int) < (n : Int)) = true := by simp; omega
      go_enter Tryz.func116, Tryz.ntmps116
      go_wp2_with fail
      refine bodyPost_ret (v := .agg #[.bool true, .slice A n c]) (by simp [results, Tryz.results116, go_sem]) rfl ⟨_, _, _, _, rfl, ⟨HZ.out, ?_⟩, Nat.le_refl _, ((Below.refl _ w).alloc (Nat.le_refl _) _).alloc (by simp) _⟩
      rw [Int.natAbs_neg]
      exact hh.out.2.to (((Below.refl _ w).alloc (Nat.le_refl _) _).alloc (by simp) _) hB (by simp; omega)
    · have HZ : Hid (false = decide (-z < 0)) := by have h1 := HNEG.out; have h2 := HPOS.out; show _ = _; simp at h1 ⊢; omega
      have hd : decide ((0 : Int) < (n : Int)) = false := by simp; omega
      go_enter Tryz.func116, Tryz.ntmps116
      go_wp2_with fail
      refine bodyPost_ret (v := .agg #[.bool false, .slice A n c]) (by simp [results, Tryz.results116, go_sem]) rfl ⟨_, _, _, _, rfl, ⟨HZ.out, ?_⟩, Nat.le_refl _, ((Below.refl _ w).alloc (Nat.le_refl _) _).alloc (by simp) _⟩
      rw [Int.natAbs_neg]
      exact hh.out.2.to (((Below.refl _ w).alloc (Nat.le_refl _) _).alloc (by simp) _) hB (by simp; omega)
def cmpZ (a b : Int) : Int := if a < b then -1 else if a = b then 0 else 1
theorem cmpZ_lt {x y : Int} (h : x < y) : cmpZ x y = -1 := by unfold cmpZ; rw [if_pos h]
theorem cmpZ_gt {x y : Int} (h : y < x) : cmpZ x y = 1 := by unfold cmpZ; rw [if_neg (by omega), if_neg (by omega)]
theorem cmpZ_eq {x y : Int} (h : x = y) : cmpZ x y = 0 := by unfold cmpZ; rw [if_neg (by omega), if_pos h]
theorem cmpZ_pos {a b : Int} (ha : 0 ≤ a) (hb : 0 ≤ b) : cmpZ a b = cmpN a.natAbs b.natAbs := by
  rcases Int.lt_trichotomy a b with h | h | h
  · rw [cmpZ_lt h, cmpN_lt (by omega)]
  · rw [cmpZ_eq h, cmpN_eq (by omega)]
  · rw [cmpZ_gt h, cmpN_gt (by omega)]
theorem cmpZ_neg {a b : Int} (ha : a < 0) (hb : b < 0) : cmpZ a b = cmpN b.natAbs a.natAbs := by
  rcases Int.lt_trichotomy a b with h | h | h
  · rw [cmpZ_lt h, cmpN_lt (by omega)]
  · rw [cmpZ_eq h, cmpN_eq (by omega)]
  · rw [cmpZ_gt h, cmpN_gt (by omega)]
set_option maxRecDepth 100000 in
set_option maxHeartbeats 1000000 in
theorem ICMP_any (neg neg' : Bool) (A A' : Option Addr) (n c n' c' : Nat) (z z' : Int) (w : World) (B : Nat) (hB : B ≤ w.heap.size) (hh : Hid (IntAt w B neg A n c z)) (hh' : Hid (IntAt w B neg' A' n' c' z')) :
    Calls Tryz.prog 140 #[.agg #[.bool neg, .slice A n c], .agg #[.bool neg', .slice A' n' c']] w fun e w' => e = .returned (.int .i64 (cmpZ z z')) ∧ Below w.heap.size w w' := by
  obtain ⟨W, gx, hW, hgx, HHW, HBW, HSW⟩ := boxes2 w (.cells #[.bool neg, .slice A n c] 82) (.cells #[.bool neg', .slice A' n' c'] 82)
  have HNEG := Lib.hid hh.out.1
  have HNEG' := Lib.hid hh'.out.1
  cases neg with
  | true =>
    have hz : z < 0 := by have := HNEG.out; simpa using this
    cases neg' with
    | true =>
      have hz' : z' < 0 := by have := HNEG'.out; simpa using this
      have HC := Lib.hid (cmpZ_neg hz hz')
      clear hz hz'
      go_enter Tryz.func140, Tryz.ntmps140
      go_wp2_with fail
      rw [← hW]
      refine (NCMP_below A' A n' c' _ n c _ _ W.heap.size (Lib.hid (hh'.out.2.to HBW.out hB (by have := HSW.out; omega))) (Lib.hid (hh.out.2.to HBW.out hB (by have := HSW.out; omega)))).mono ?_
      rintro e w1 ⟨rfl, hb1⟩
      have HB1 := Lib.hid (HBW.out.trans (hb1.mono (by have := HSW.out; omega)))
      clear hb1 hW
      go_wp2_with fail
      go_ret
      exact ⟨by rw [HC.out]; rfl, HB1.out⟩
    | false =>
      have hz' : ¬ z' < 0 := by have := HNEG'.out; simpa using this
      have HC : Hid (cmpZ z z' = -1) := by show _ = _; unfold cmpZ; rw [if_pos (by omega)]
      clear hz hz'
      go_enter Tryz.func140, Tryz.ntmps140
      go_wp2_with fail
      rw [← hW]
      go_ret
      exact ⟨by rw [HC.out]; rfl, HBW.out⟩
  | false =>
    have hz : ¬ z < 0 := by have := HNEG.out; simpa using this
    cases neg' with
    | true =>
      have hz' : z' < 0 := by have := HNEG'.out; simpa using this
      have HC : Hid (cmpZ z z' = 1) := by show _ = _; unfold cmpZ; rw [if_neg (by omega), if_neg (by omega)]
      clear hz hz'
      go_enter Tryz.func140, Tryz.ntmps140
      go_wp2_with fail
      rw [← hW]
      go_ret
      exact ⟨by rw [HC.out]; rfl, HBW.out⟩
    | false =>
      have hz' : ¬ z' < 0 := by have := HNEG'.out; simpa using this
      have HC := Lib.hid (cmpZ_pos (show 0 ≤ z by omega) (show 0 ≤ z' by omega))
      clear hz hz'
      go_enter Tryz.func140, Tryz.ntmps140
      go_wp2_with fail
      rw [← hW]
      refine (NCMP_below A A' n c _ n' c' _ _ W.heap.size (Lib.hid (hh.out.2.to HBW.out hB (by have := HSW.out; omega))) (Lib.hid (hh'.out.2.to HBW.out hB (by have := HSW.out; omega)))).mono ?_
      rintro e w1 ⟨rfl, hb1⟩
      have HB1 := Lib.hid (HBW.out.trans (hb1.mono (by have := HSW.out; omega)))
      clear hb1 hW
      go_wp2_with fail
      go_ret
      exact ⟨by rw [HC.out]; rfl, HB1.out⟩
end Go.Proofs.YtkmcohnhanphdaaGreatDoor
/- num.Int: Mul, Add. -/
namespace Go.Proofs.YtkmcohnhanphdaaGreatDoor
open Go.RowKit Go.Dw
theorem sign_mul {a b : Int} (x y : Bool) (hx : x = decide (a < 0)) (hy : y = decide (b < 0)) : decide (a * b < 0) = ((x != y) && decide (0 < (a * b).natAbs)) := by
  subst hx hy
  rcases Int.lt_trichotomy a 0 with h | h | h
  · rcases Int.lt_trichotomy b 0 with k | k | k
    · have := Int.mul_pos_of_neg_of_neg h k
      have h1 : ¬ a * b < 0 := by omega
      simp [h, k, h1]
    · subst k; simp
    · have := Int.mul_neg_of_neg_of_pos h k
      have h1 : ¬ b < 0 := by omega
      simp [h, h1, this]
      omega
  · subst h; simp
  · rcases Int.lt_trichotomy b 0 with k | k | k
    · have := Int.mul_neg_of_pos_of_neg h k
      have h1 : ¬ a < 0 := by omega
      simp [k, h1, this]
      omega
    · subst k; simp
    · have := Int.mul_pos h k
      have h1 : ¬ a * b < 0 := by omega
      have h2 : ¬ a < 0 := by omega
      have h3 : ¬ b < 0 := by omega
      simp [h1, h2, h3]
set_option maxRecDepth 100000 in
set_option maxHeartbeats 2000000 in
theorem IMUL_any (neg neg' : Bool) (A A' : Option Addr) (n c n' c' : Nat) (z z' : Int) (hn : n ≤ 400000000000) (hn' : n' ≤ 400000000000) (w : World) (B : Nat) (hB : B ≤ w.heap.size) (hh : Hid (IntAt w B neg A n c z)) (hh' : Hid (IntAt w B neg' A' n' c' z')) :
    Calls Tryz.prog 31 #[.agg #[.bool neg, .slice A n c], .agg #[.bool neg', .slice A' n' c']] w (OutI w (z * z') (n + n')) := by
  obtain ⟨W, gx, hW, hgx, HHW, HBW, HSW⟩ := boxes3 w (.cells #[.bool neg, .slice A n c] 82) (.cells #[.bool neg', .slice A' n' c'] 82) (.cells #[.bool false, .slice none 0 0] 82)
  have HGX := Lib.hid hgx
  have HNEG := Lib.hid hh.out.1
  have HNEG' := Lib.hid hh'.out.1
  have hc0 := (two_cells HHW.out.1).1
  have hc1 := (two_cells HHW.out.2.1).1
  have HNW := Lib.hid (hh.out.2.to HBW.out hB (by have := HSW.out; omega))
  have HNW' := Lib.hid (hh'.out.2.to HBW.out hB (by have := HSW.out; omega))
  go_enter Tryz.func31, Tryz.ntmps31
  go_wp2_with fail
  rw [← hW, ← hgx]
  clear hW hgx
  refine (NMUL_any A A' n c _ n' c' _ hn hn' _ W.heap.size (Nat.le_refl _) HNW HNW').mono ?_
  rintro e w1 ⟨A1, n1, c1, rfl, h1, k1, hb1⟩
  rw [← Int.natAbs_mul] at h1
  have H1 := Lib.hid h1
  have hcw0 := (hb1.cell (p := ⟨gx, 0, none⟩) (blk_lt HHW.out.1)).trans hc0
  have hcw1 := (hb1.cell (p := ⟨gx + 1, 0, none⟩) (blk_lt HHW.out.2.1)).trans hc1
  have HB1 := Lib.hid (HBW.out.trans (hb1.mono (by have := HSW.out; omega)))
  have hhx := (hb1.block (gx + 1 + 1) (blk_lt HHW.out.2.2)).trans HHW.out.2.2
  obtain ⟨hr0, hr1, hf0, hf1⟩ := two_cells hhx
  have hgx2 : gx + 1 + 1 < w1.heap.size := blk_lt hhx
  have HHX := Lib.hid hhx
  clear hhx
  have hpos := h1.pos_iff (by omega)
  clear hb1 h1 hc0 hc1 HNW HNW' hn hn'
  have HSAME : Hid (∀ x : Bool, decide (0 < (z * z').natAbs) = decide (0 < n1)) := fun _ => by
    by_cases hp : 0 < n1
    · rw [decide_eq_true hp, decide_eq_true (hpos.1 hp)]
    · rw [decide_eq_false hp, decide_eq_false (fun h => hp (hpos.2 h))]
  clear hpos
  cases neg with
  | true =>
    cases neg' with
    | true =>
      have HSG : Hid (((true != true) && decide (0 < (z * z').natAbs)) = false) := rfl
      go_wp2_with fail
      exact end_intn rfl rfl rfl hr0 hr1 (outI_set (z := z * z') (neg := false) (by rw [sign_mul _ _ HNEG.out HNEG'.out, HSG.out]) (by have := HGX.out; omega) ⟨_, _, HHX.out⟩ H1.out HB1.out k1)
    | false =>
      by_cases hp : 0 < n1
      · have hd : decide ((0 : Int) < (n1 : Int)) = true := by simp; omega
        have HSG : Hid (((true != false) && decide (0 < (z * z').natAbs)) = true) := by rw [HSAME.out true, decide_eq_true hp]; rfl
        go_wp2_with fail
        exact end_intn rfl rfl rfl hr0 hr1 (outI_set (z := z * z') (neg := true) (by rw [sign_mul _ _ HNEG.out HNEG'.out, HSG.out]) (by have := HGX.out; omega) ⟨_, _, HHX.out⟩ H1.out HB1.out k1)
      · have hd : decide ((0 : Int) < (n1 : Int)) = false := by simp; omega
        have HSG : Hid (((true != false) && decide (0 < (z * z').natAbs)) = false) := by rw [HSAME.out true, decide_eq_false hp]; rfl
        go_wp2_with fail
        exact end_intn rfl rfl rfl hr0 hr1 (outI_set (z := z * z') (neg := false) (by rw [sign_mul _ _ HNEG.out HNEG'.out, HSG.out]) (by have := HGX.out; omega) ⟨_, _, HHX.out⟩ H1.out HB1.out k1)
  | false =>
    cases neg' with
    | true =>
      by_cases hp : 0 < n1
      · have hd : decide ((0 : Int) < (n1 : Int)) = true := by simp; omega
        have HSG : Hid (((false != true) && decide (0 < (z * z').natAbs)) = true) := by rw [HSAME.out true, decide_eq_true hp]; rfl
        go_wp2_with fail
        exact end_intn rfl rfl rfl hr0 hr1 (outI_set (z := z * z') (neg := true) (by rw [sign_mul _ _ HNEG.out HNEG'.out, HSG.out]) (by have := HGX.out; omega) ⟨_, _, HHX.out⟩ H1.out HB1.out k1)
      · have hd : decide ((0 : Int) < (n1 : Int)) = false := by simp; omega
        have HSG : Hid (((false != true) && decide (0 < (z * z').natAbs)) = false) := by rw [HSAME.out true, decide_eq_false hp]; rfl
        go_wp2_with fail
        exact end_intn rfl rfl rfl hr0 hr1 (outI_set (z := z * z') (neg := false) (by rw [sign_mul _ _ HNEG.out HNEG'.out, HSG.out]) (by have := HGX.out; omega) ⟨_, _, HHX.out⟩ H1.out HB1.out k1)
    | false =>
      have HSG : Hid (((false != false) && decide (0 < (z * z').natAbs)) = false) := rfl
      go_wp2_with fail
      exact end_intn rfl rfl rfl hr0 hr1 (outI_set (z := z * z') (neg := false) (by rw [sign_mul _ _ HNEG.out HNEG'.out, HSG.out]) (by have := HGX.out; omega) ⟨_, _, HHX.out⟩ H1.out HB1.out k1)
set_option maxRecDepth 100000 in
set_option maxHeartbeats 2000000 in
theorem IADD_any (neg neg' : Bool) (A A' : Option Addr) (n c n' c' : Nat) (z z' : Int) (hn : n ≤ 1000000000000) (hn' : n' ≤ 1000000000000) (w : World) (B : Nat) (hB : B ≤ w.heap.size) (hh : Hid (IntAt w B neg A n c z)) (hh' : Hid (IntAt w B neg' A' n' c' z')) :
    Calls Tryz.prog 70 #[.agg #[.bool neg, .slice A n c], .agg #[.bool neg', .slice A' n' c']] w (OutI w (z + z') (max n n' + 1)) := by
  obtain ⟨W, gx, hW, hgx, HHW, HBX, HSW⟩ := boxes3 w (.cells #[.bool neg, .slice A n c] 82) (.cells #[.bool neg', .slice A' n' c'] 82) (.cells #[.bool false, .slice none 0 0] 82)
  have HGX := Lib.hid hgx
  have HNEG := Lib.hid hh.out.1
  have HNEG' := Lib.hid hh'.out.1
  obtain ⟨hx0, hx1, _, _⟩ := two_cells HHW.out.1
  obtain ⟨hy0, hx2, _, _⟩ := two_cells HHW.out.2.1
  have HHR := Lib.hid HHW.out.2.2
  have hgw := blk_lt HHW.out.2.2
  have HSX : w.heap.size ≤ W.heap.size := by have := HSW.out; omega
  have HNW := Lib.hid (hh.out.2.to HBX.out hB (by have := HSW.out; omega))
  have HNW' := Lib.hid (hh'.out.2.to HBX.out hB (by have := HSW.out; omega))
  cases neg with
  | true =>
    cases neg' with
    | true =>
      have HSG : Hid (true = decide (z + z' < 0)) := by have h1 := HNEG.out; have h2 := HNEG'.out; show _ = _; simp at h1 h2 ⊢; omega
      go_enter Tryz.func70, Tryz.ntmps70
      go_wp2_with fail
      rw [← hW, ← hgx]
      obtain ⟨Wx, rfl⟩ : ∃ Wx : World, Wx = W := ⟨_, rfl⟩
      clear hW hgx
      refine wp_region_text 8 (fun x => x.cell? ⟨gx, 0, none⟩ = some (.bool true) ∧ x.cell? ⟨gx, 1, none⟩ = some (.slice A n c) ∧ x.cell? ⟨gx + 1, 1, none⟩ = some (.slice A' n' c')) (by kernel_rfl) (by kernel_rfl) ?_
      have hS : Wx.drew.cell? ⟨gx, 0, none⟩ = some (.bool true) ∧ Wx.drew.cell? ⟨gx, 1, none⟩ = some (.slice A n c) ∧ Wx.drew.cell? ⟨gx + 1, 1, none⟩ = some (.slice A' n' c') := ⟨hx0, hx1, hx2⟩
      refine HT.take (i := 0) (oi := _) (v := ?_) rfl (by kernel_rfl) (by kernel_rfl) (by decide) (fun _ _ _ h => h) (Or.inl ⟨by rfl, ?_⟩) hS ?_
      rotate_left
      · intro wz
        go_simp
        try with_reducible rfl
      simp only [zA, zB, zC, Act.put, zD, zE, zF]
      refine HT.load (i := 1) (oi := _) (v := ?_) rfl (by kernel_rfl) (by kernel_rfl) (by decide) (fun _ _ _ h => h) (by kernel_rfl) (Or.inl ⟨by rfl, ?_⟩) hS ?_
      rotate_left
      · intro wz hwz
        try dsimp only at hwz
        go_simp
        try with_reducible rfl
      simp only [zA, zB, zC, Act.put, zD, zE, zF]
      refine HT.take (i := 2) (oi := _) (v := ?_) rfl (by kernel_rfl) (by kernel_rfl) (by decide) (fun _ _ _ h => h) (Or.inl ⟨by rfl, ?_⟩) hS ?_
      rotate_left
      · intro wz
        go_simp
        try with_reducible rfl
      simp only [zA, zB, zC, Act.put, zD, zE, zF]
      refine HT.load (i := 3) (oi := _) (v := ?_) rfl (by kernel_rfl) (by kernel_rfl) (by decide) (fun _ _ _ h => h) (by kernel_rfl) (Or.inl ⟨by rfl, ?_⟩) hS ?_
      rotate_left
      · intro wz hwz
        try dsimp only at hwz
        go_simp
        try with_reducible rfl
      simp only [zA, zB, zC, Act.put, zD, zE, zF]
      refine HT.take (i := 4) (oi := _) (v := ?_) rfl (by kernel_rfl) (by kernel_rfl) (by decide) (fun _ _ _ h => h) (Or.inl ⟨by rfl, ?_⟩) hS ?_
      rotate_left
      · intro wz
        go_simp
        try with_reducible rfl
      simp only [zA, zB, zC, Act.put, zD, zE, zF]
      refine HT.load (i := 5) (oi := _) (v := ?_) rfl (by kernel_rfl) (by kernel_rfl) (by decide) (fun _ _ _ h => h) (by kernel_rfl) (Or.inl ⟨by rfl, ?_⟩) hS ?_
      rotate_left
      · intro wz hwz
        try dsimp only at hwz
        go_simp
        try with_reducible rfl
      simp only [zA, zB, zC, Act.put, zD, zE, zF]
      refine HT.one (i := 6) (o := _) rfl (by kernel_rfl) (by decide) (by rfl) ?_
      intro K hK
      go_simp
      refine (NADD_any A A' n c _ n' c' _ hn hn' _ Wx.heap.size (by exact Nat.le_refl _) (by exact HNW) (by exact HNW')).mono ?_
      rintro e w1 ⟨A1, n1, c1, rfl, h1, k1, hb0⟩
      have hb1 : Below Wx.heap.size Wx w1 := ⟨hb0.os, hb0.tape, hb0.output, hb0.size, hb0.block⟩
      refine hK.out _ _ ⟨(hb1.cell (p := ⟨gx, 0, none⟩) (by dsimp only; omega)).trans hx0, (hb1.cell (p := ⟨gx, 1, none⟩) (by dsimp only; omega)).trans hx1, (hb1.cell (p := ⟨gx + 1, 1, none⟩) (by dsimp only; omega)).trans hx2⟩ ?_
      clear hK K hS
      have hS : w1.cell? ⟨gx, 0, none⟩ = some (.bool true) ∧ w1.cell? ⟨gx, 1, none⟩ = some (.slice A n c) ∧ w1.cell? ⟨gx + 1, 1, none⟩ = some (.slice A' n' c') := ⟨(hb1.cell (p := ⟨gx, 0, none⟩) (by dsimp only; omega)).trans hx0, (hb1.cell (p := ⟨gx, 1, none⟩) (by dsimp only; omega)).trans hx1, (hb1.cell (p := ⟨gx + 1, 1, none⟩) (by dsimp only; omega)).trans hx2⟩
      try simp only [zA, zB, zC, Act.put, zD, zE, zF]
      refine HT.take (i := 7) (oi := _) (v := ?_) rfl (by kernel_rfl) (by kernel_rfl) (by decide) (fun _ _ _ h => h) (Or.inl ⟨by rfl, ?_⟩) hS ?_
      rotate_left
      · intro wz
        go_simp
        try with_reducible rfl
      simp only [zA, zB, zC, Act.put, zD, zE, zF]
      have H1 := Lib.hid h1
      have HB1 := Lib.hid (HBX.out.trans (hb1.mono HSX))
      have hhx := (hb1.block (gx + 1 + 1) hgw).trans HHR.out
      obtain ⟨hr0, hr1, hf0, hf1⟩ := two_cells hhx
      have HHX := Lib.hid hhx
      clear hb0 hb1 h1 hhx
      refine HT.done (by kernel_rfl) ?_
      clear hS
      simp only [List.drop_succ_cons, List.drop_zero]
      go_wp2_with fail
      exact end_intn rfl rfl rfl hr0 hr1 (outI_set (z := z + z') (neg := true) HSG.out (by have := HGX.out; omega) ⟨_, _, HHX.out⟩ (by rw [show (z + z').natAbs = z.natAbs + z'.natAbs by have := HNEG.out; have := HNEG'.out; simp at *; omega]; exact H1.out) HB1.out (by omega))
    | false =>
      obtain ⟨k, hk⟩ : ∃ k, cmpN z.natAbs z'.natAbs = k := ⟨_, rfl⟩
      have HK := Lib.hid hk
      clear hk
      go_enter Tryz.func70, Tryz.ntmps70
      go_wp2_with fail
      rw [← hW, ← hgx]
      clear hW hgx
      refine (NCMP_below A A' n c _ n' c' _ _ W.heap.size HNW HNW').mono ?_
      rintro e Wx ⟨rfl, hb⟩
      rw [HK.out]
      have hx0 := (hb.cell (p := ⟨gx, 0, none⟩) (by dsimp only; omega)).trans hx0
      have hx1 := (hb.cell (p := ⟨gx, 1, none⟩) (by dsimp only; omega)).trans hx1
      have hy0 := (hb.cell (p := ⟨gx + 1, 0, none⟩) (by dsimp only; omega)).trans hy0
      have hx2 := (hb.cell (p := ⟨gx + 1, 1, none⟩) (by dsimp only; omega)).trans hx2
      have HHR := Lib.hid ((hb.block (gx + 1 + 1) hgw).trans HHR.out)
      have HNW := Lib.hid (HNW.out.to hb (Nat.le_refl _) hb.size)
      have HNW' := Lib.hid (HNW'.out.to hb (Nat.le_refl _) hb.size)
      have HBX := Lib.hid (HBX.out.trans (hb.mono HSX))
      have hgw := Nat.lt_of_lt_of_le hgw hb.size
      have HSX := Nat.le_trans HSX hb.size
      clear hb HSW HHW
      by_cases h1 : z.natAbs < z'.natAbs
      · obtain rfl : k = -1 := by rw [← HK.out]; exact cmpN_lt h1
        have HSG : Hid (false = decide (z + z' < 0)) := by have h1 := HNEG.out; have h2 := HNEG'.out; show _ = _; simp at h1 h2 ⊢; omega
        have hx0 := hy0
        have hle := Nat.le_of_lt h1
        have HLT := Lib.hid h1
        go_wp2_with fail
        refine wp_region_text 8 (fun x => x.cell? ⟨gx + 1, 0, none⟩ = some (.bool false) ∧ x.cell? ⟨gx, 1, none⟩ = some (.slice A n c) ∧ x.cell? ⟨gx + 1, 1, none⟩ = some (.slice A' n' c')) (by kernel_rfl) (by kernel_rfl) ?_
        have hS : Wx.drew.cell? ⟨gx + 1, 0, none⟩ = some (.bool false) ∧ Wx.drew.cell? ⟨gx, 1, none⟩ = some (.slice A n c) ∧ Wx.drew.cell? ⟨gx + 1, 1, none⟩ = some (.slice A' n' c') := ⟨hx0, hx1, hx2⟩
        refine HT.take (i := 0) (oi := _) (v := ?_) rfl (by kernel_rfl) (by kernel_rfl) (by decide) (fun _ _ _ h => h) (Or.inl ⟨by rfl, ?_⟩) hS ?_
        rotate_left
        · intro wz
          go_simp
          try with_reducible rfl
        simp only [zA, zB, zC, Act.put, zD, zE, zF]
        refine HT.load (i := 1) (oi := _) (v := ?_) rfl (by kernel_rfl) (by kernel_rfl) (by decide) (fun _ _ _ h => h) (by kernel_rfl) (Or.inl ⟨by rfl, ?_⟩) hS ?_
        rotate_left
        · intro wz hwz
          try dsimp only at hwz
          go_simp
          try with_reducible rfl
        simp only [zA, zB, zC, Act.put, zD, zE, zF]
        refine HT.take (i := 2) (oi := _) (v := ?_) rfl (by kernel_rfl) (by kernel_rfl) (by decide) (fun _ _ _ h => h) (Or.inl ⟨by rfl, ?_⟩) hS ?_
        rotate_left
        · intro wz
          go_simp
          try with_reducible rfl
        simp only [zA, zB, zC, Act.put, zD, zE, zF]
        refine HT.load (i := 3) (oi := _) (v := ?_) rfl (by kernel_rfl) (by kernel_rfl) (by decide) (fun _ _ _ h => h) (by kernel_rfl) (Or.inl ⟨by rfl, ?_⟩) hS ?_
        rotate_left
        · intro wz hwz
          try dsimp only at hwz
          go_simp
          try with_reducible rfl
        simp only [zA, zB, zC, Act.put, zD, zE, zF]
        refine HT.take (i := 4) (oi := _) (v := ?_) rfl (by kernel_rfl) (by kernel_rfl) (by decide) (fun _ _ _ h => h) (Or.inl ⟨by rfl, ?_⟩) hS ?_
        rotate_left
        · intro wz
          go_simp
          try with_reducible rfl
        simp only [zA, zB, zC, Act.put, zD, zE, zF]
        refine HT.load (i := 5) (oi := _) (v := ?_) rfl (by kernel_rfl) (by kernel_rfl) (by decide) (fun _ _ _ h => h) (by kernel_rfl) (Or.inl ⟨by rfl, ?_⟩) hS ?_
        rotate_left
        · intro wz hwz
          try dsimp only at hwz
          go_simp
          try with_reducible rfl
        simp only [zA, zB, zC, Act.put, zD, zE, zF]
        refine HT.one (i := 6) (o := _) rfl (by kernel_rfl) (by decide) (by rfl) ?_
        intro K hK
        go_simp
        refine (NSUB_any A' A n' c' _ n c _ hn' hle _ Wx.heap.size (by exact Nat.le_refl _) (by exact HNW') (by exact HNW)).mono ?_
        rintro e w1 ⟨A1, n1, c1, rfl, h1, k1, hb0⟩
        have hb1 : Below Wx.heap.size Wx w1 := ⟨hb0.os, hb0.tape, hb0.output, hb0.size, hb0.block⟩
        refine hK.out _ _ ⟨(hb1.cell (p := ⟨gx + 1, 0, none⟩) (by dsimp only; omega)).trans hx0, (hb1.cell (p := ⟨gx, 1, none⟩) (by dsimp only; omega)).trans hx1, (hb1.cell (p := ⟨gx + 1, 1, none⟩) (by dsimp only; omega)).trans hx2⟩ ?_
        clear hK K hS
        have hS : w1.cell? ⟨gx + 1, 0, none⟩ = some (.bool false) ∧ w1.cell? ⟨gx, 1, none⟩ = some (.slice A n c) ∧ w1.cell? ⟨gx + 1, 1, none⟩ = some (.slice A' n' c') := ⟨(hb1.cell (p := ⟨gx + 1, 0, none⟩) (by dsimp only; omega)).trans hx0, (hb1.cell (p := ⟨gx, 1, none⟩) (by dsimp only; omega)).trans hx1, (hb1.cell (p := ⟨gx + 1, 1, none⟩) (by dsimp only; omega)).trans hx2⟩
        try simp only [zA, zB, zC, Act.put, zD, zE, zF]
        refine HT.take (i := 7) (oi := _) (v := ?_) rfl (by kernel_rfl) (by kernel_rfl) (by decide) (fun _ _ _ h => h) (Or.inl ⟨by rfl, ?_⟩) hS ?_
        rotate_left
        · intro wz
          go_simp
          try with_reducible rfl
        simp only [zA, zB, zC, Act.put, zD, zE, zF]
        have H1 := Lib.hid h1
        have HB1 := Lib.hid (HBX.out.trans (hb1.mono HSX))
        have hhx := (hb1.block (gx + 1 + 1) hgw).trans HHR.out
        obtain ⟨hr0, hr1, hf0, hf1⟩ := two_cells hhx
        have HHX := Lib.hid hhx
        clear hb0 hb1 h1 hhx
        refine HT.done (by kernel_rfl) ?_
        clear hS
        simp only [List.drop_succ_cons, List.drop_zero]
        go_wp2_with fail
        exact end_intn rfl rfl rfl hr0 hr1 (outI_set (z := z + z') (neg := false) HSG.out (by have := HGX.out; omega) ⟨_, _, HHX.out⟩ (by rw [show (z + z').natAbs = z'.natAbs - z.natAbs by have := HNEG.out; have := HNEG'.out; have := HLT.out; simp at *; omega]; exact H1.out) HB1.out (by omega))
      by_cases h2 : z'.natAbs < z.natAbs
      · obtain rfl : k = 1 := by rw [← HK.out]; exact cmpN_gt h2
        have HSG : Hid (true = decide (z + z' < 0)) := by have h1 := HNEG.out; have h2 := HNEG'.out; show _ = _; simp at h1 h2 ⊢; omega
        have hle := Nat.le_of_lt h2
        have HLT := Lib.hid h2
        go_wp2_with fail
        refine wp_region_text 8 (fun x => x.cell? ⟨gx, 0, none⟩ = some (.bool true) ∧ x.cell? ⟨gx, 1, none⟩ = some (.slice A n c) ∧ x.cell? ⟨gx + 1, 1, none⟩ = some (.slice A' n' c')) (by kernel_rfl) (by kernel_rfl) ?_
        have hS : Wx.drew.cell? ⟨gx, 0, none⟩ = some (.bool true) ∧ Wx.drew.cell? ⟨gx, 1, none⟩ = some (.slice A n c) ∧ Wx.drew.cell? ⟨gx + 1, 1, none⟩ = some (.slice A' n' c') := ⟨hx0, hx1, hx2⟩
        refine HT.take (i := 0) (oi := _) (v := ?_) rfl (by kernel_rfl) (by kernel_rfl) (by decide) (fun _ _ _ h => h) (Or.inl ⟨by rfl, ?_⟩) hS ?_
        rotate_left
        · intro wz
          go_simp
          try with_reducible rfl
        simp only [zA, zB, zC, Act.put, zD, zE, zF]
        refine HT.load (i := 1) (oi := _) (v := ?_) rfl (by kernel_rfl) (by kernel_rfl) (by decide) (fun _ _ _ h => h) (by kernel_rfl) (Or.inl ⟨by rfl, ?_⟩) hS ?_
        rotate_left
        · intro wz hwz
          try dsimp only at hwz
          go_simp
          try with_reducible rfl
        simp only [zA, zB, zC, Act.put, zD, zE, zF]
        refine HT.take (i := 2) (oi := _) (v := ?_) rfl (by kernel_rfl) (by kernel_rfl) (by decide) (fun _ _ _ h => h) (Or.inl ⟨by rfl, ?_⟩) hS ?_
        rotate_left
        · intro wz
          go_simp
          try with_reducible rfl
        simp only [zA, zB, zC, Act.put, zD, zE, zF]
        refine HT.load (i := 3) (oi := _) (v := ?_) rfl (by kernel_rfl) (by kernel_rfl) (by decide) (fun _ _ _ h => h) (by kernel_rfl) (Or.inl ⟨by rfl, ?_⟩) hS ?_
        rotate_left
        · intro wz hwz
          try dsimp only at hwz
          go_simp
          try with_reducible rfl
        simp only [zA, zB, zC, Act.put, zD, zE, zF]
        refine HT.take (i := 4) (oi := _) (v := ?_) rfl (by kernel_rfl) (by kernel_rfl) (by decide) (fun _ _ _ h => h) (Or.inl ⟨by rfl, ?_⟩) hS ?_
        rotate_left
        · intro wz
          go_simp
          try with_reducible rfl
        simp only [zA, zB, zC, Act.put, zD, zE, zF]
        refine HT.load (i := 5) (oi := _) (v := ?_) rfl (by kernel_rfl) (by kernel_rfl) (by decide) (fun _ _ _ h => h) (by kernel_rfl) (Or.inl ⟨by rfl, ?_⟩) hS ?_
        rotate_left
        · intro wz hwz
          try dsimp only at hwz
          go_simp
          try with_reducible rfl
        simp only [zA, zB, zC, Act.put, zD, zE, zF]
        refine HT.one (i := 6) (o := _) rfl (by kernel_rfl) (by decide) (by rfl) ?_
        intro K hK
        go_simp
        refine (NSUB_any A A' n c _ n' c' _ hn hle _ Wx.heap.size (by exact Nat.le_refl _) (by exact HNW) (by exact HNW')).mono ?_
        rintro e w1 ⟨A1, n1, c1, rfl, h1, k1, hb0⟩
        have hb1 : Below Wx.heap.size Wx w1 := ⟨hb0.os, hb0.tape, hb0.output, hb0.size, hb0.block⟩
        refine hK.out _ _ ⟨(hb1.cell (p := ⟨gx, 0, none⟩) (by dsimp only; omega)).trans hx0, (hb1.cell (p := ⟨gx, 1, none⟩) (by dsimp only; omega)).trans hx1, (hb1.cell (p := ⟨gx + 1, 1, none⟩) (by dsimp only; omega)).trans hx2⟩ ?_
        clear hK K hS
        have hS : w1.cell? ⟨gx, 0, none⟩ = some (.bool true) ∧ w1.cell? ⟨gx, 1, none⟩ = some (.slice A n c) ∧ w1.cell? ⟨gx + 1, 1, none⟩ = some (.slice A' n' c') := ⟨(hb1.cell (p := ⟨gx, 0, none⟩) (by dsimp only; omega)).trans hx0, (hb1.cell (p := ⟨gx, 1, none⟩) (by dsimp only; omega)).trans hx1, (hb1.cell (p := ⟨gx + 1, 1, none⟩) (by dsimp only; omega)).trans hx2⟩
        try simp only [zA, zB, zC, Act.put, zD, zE, zF]
        refine HT.take (i := 7) (oi := _) (v := ?_) rfl (by kernel_rfl) (by kernel_rfl) (by decide) (fun _ _ _ h => h) (Or.inl ⟨by rfl, ?_⟩) hS ?_
        rotate_left
        · intro wz
          go_simp
          try with_reducible rfl
        simp only [zA, zB, zC, Act.put, zD, zE, zF]
        have H1 := Lib.hid h1
        have HB1 := Lib.hid (HBX.out.trans (hb1.mono HSX))
        have hhx := (hb1.block (gx + 1 + 1) hgw).trans HHR.out
        obtain ⟨hr0, hr1, hf0, hf1⟩ := two_cells hhx
        have HHX := Lib.hid hhx
        clear hb0 hb1 h1 hhx
        refine HT.done (by kernel_rfl) ?_
        clear hS
        simp only [List.drop_succ_cons, List.drop_zero]
        go_wp2_with fail
        exact end_intn rfl rfl rfl hr0 hr1 (outI_set (z := z + z') (neg := true) HSG.out (by have := HGX.out; omega) ⟨_, _, HHX.out⟩ (by rw [show (z + z').natAbs = z.natAbs - z'.natAbs by have := HNEG.out; have := HNEG'.out; have := HLT.out; simp at *; omega]; exact H1.out) HB1.out (by omega))
      · have he : z.natAbs = z'.natAbs := by omega
        obtain rfl : k = 0 := by rw [← HK.out]; exact cmpN_eq he
        have HZ : Hid (z + z' = 0) := by have h1 := HNEG.out; have h2 := HNEG'.out; show _ = _; simp at h1 h2; omega
        obtain ⟨hr0, hr1, hf0, hf1⟩ := two_cells HHR.out
        go_wp2_with fail
        exact end_intn rfl rfl rfl hr0 hr1 (outI_set (z := z + z') (neg := false) (by rw [HZ.out]; rfl) (by have := HGX.out; omega) ⟨_, _, HHR.out⟩ (by rw [HZ.out]; exact NumAt.nil _ _ _ _ _) HBX.out (Nat.zero_le _))
  | false =>
    cases neg' with
    | true =>
      obtain ⟨k, hk⟩ : ∃ k, cmpN z.natAbs z'.natAbs = k := ⟨_, rfl⟩
      have HK := Lib.hid hk
      clear hk
      go_enter Tryz.func70, Tryz.ntmps70
      go_wp2_with fail
      rw [← hW, ← hgx]
      clear hW hgx
      refine (NCMP_below A A' n c _ n' c' _ _ W.heap.size HNW HNW').mono ?_
      rintro e Wx ⟨rfl, hb⟩
      rw [HK.out]
      have hx0 := (hb.cell (p := ⟨gx, 0, none⟩) (by dsimp only; omega)).trans hx0
      have hx1 := (hb.cell (p := ⟨gx, 1, none⟩) (by dsimp only; omega)).trans hx1
      have hy0 := (hb.cell (p := ⟨gx + 1, 0, none⟩) (by dsimp only; omega)).trans hy0
      have hx2 := (hb.cell (p := ⟨gx + 1, 1, none⟩) (by dsimp only; omega)).trans hx2
      have HHR := Lib.hid ((hb.block (gx + 1 + 1) hgw).trans HHR.out)
      have HNW := Lib.hid (HNW.out.to hb (Nat.le_refl _) hb.size)
      have HNW' := Lib.hid (HNW'.out.to hb (Nat.le_refl _) hb.size)
      have HBX := Lib.hid (HBX.out.trans (hb.mono HSX))
      have hgw := Nat.lt_of_lt_of_le hgw hb.size
      have HSX := Nat.le_trans HSX hb.size
      clear hb HSW HHW
      by_cases h1 : z.natAbs < z'.natAbs
      · obtain rfl : k = -1 := by rw [← HK.out]; exact cmpN_lt h1
        have HSG : Hid (true = decide (z + z' < 0)) := by have h1 := HNEG.out; have h2 := HNEG'.out; show _ = _; simp at h1 h2 ⊢; omega
        have hx0 := hy0
        have hle := Nat.le_of_lt h1
        have HLT := Lib.hid h1
        go_wp2_with fail
        refine wp_region_text 8 (fun x => x.cell? ⟨gx + 1, 0, none⟩ = some (.bool true) ∧ x.cell? ⟨gx, 1, none⟩ = some (.slice A n c) ∧ x.cell? ⟨gx + 1, 1, none⟩ = some (.slice A' n' c')) (by kernel_rfl) (by kernel_rfl) ?_
        have hS : Wx.drew.cell? ⟨gx + 1, 0, none⟩ = some (.bool true) ∧ Wx.drew.cell? ⟨gx, 1, none⟩ = some (.slice A n c) ∧ Wx.drew.cell? ⟨gx + 1, 1, none⟩ = some (.slice A' n' c') := ⟨hx0, hx1, hx2⟩
        refine HT.take (i := 0) (oi := _) (v := ?_) rfl (by kernel_rfl) (by kernel_rfl) (by decide) (fun _ _ _ h => h) (Or.inl ⟨by rfl, ?_⟩) hS ?_
        rotate_left
        · intro wz
          go_simp
          try with_reducible rfl
        simp only [zA, zB, zC, Act.put, zD, zE, zF]
        refine HT.load (i := 1) (oi := _) (v := ?_) rfl (by kernel_rfl) (by kernel_rfl) (by decide) (fun _ _ _ h => h) (by kernel_rfl) (Or.inl ⟨by rfl, ?_⟩) hS ?_
        rotate_left
        · intro wz hwz
          try dsimp only at hwz
          go_simp
          try with_reducible rfl
        simp only [zA, zB, zC, Act.put, zD, zE, zF]
        refine HT.take (i := 2) (oi := _) (v := ?_) rfl (by kernel_rfl) (by kernel_rfl) (by decide) (fun _ _ _ h => h) (Or.inl ⟨by rfl, ?_⟩) hS ?_
        rotate_left
        · intro wz
          go_simp
          try with_reducible rfl
        simp only [zA, zB, zC, Act.put, zD, zE, zF]
        refine HT.load (i := 3) (oi := _) (v := ?_) rfl (by kernel_rfl) (by kernel_rfl) (by decide) (fun _ _ _ h => h) (by kernel_rfl) (Or.inl ⟨by rfl, ?_⟩) hS ?_
        rotate_left
        · intro wz hwz
          try dsimp only at hwz
          go_simp
          try with_reducible rfl
        simp only [zA, zB, zC, Act.put, zD, zE, zF]
        refine HT.take (i := 4) (oi := _) (v := ?_) rfl (by kernel_rfl) (by kernel_rfl) (by decide) (fun _ _ _ h => h) (Or.inl ⟨by rfl, ?_⟩) hS ?_
        rotate_left
        · intro wz
          go_simp
          try with_reducible rfl
        simp only [zA, zB, zC, Act.put, zD, zE, zF]
        refine HT.load (i := 5) (oi := _) (v := ?_) rfl (by kernel_rfl) (by kernel_rfl) (by decide) (fun _ _ _ h => h) (by kernel_rfl) (Or.inl ⟨by rfl, ?_⟩) hS ?_
        rotate_left
        · intro wz hwz
          try dsimp only at hwz
          go_simp
          try with_reducible rfl
        simp only [zA, zB, zC, Act.put, zD, zE, zF]
        refine HT.one (i := 6) (o := _) rfl (by kernel_rfl) (by decide) (by rfl) ?_
        intro K hK
        go_simp
        refine (NSUB_any A' A n' c' _ n c _ hn' hle _ Wx.heap.size (by exact Nat.le_refl _) (by exact HNW') (by exact HNW)).mono ?_
        rintro e w1 ⟨A1, n1, c1, rfl, h1, k1, hb0⟩
        have hb1 : Below Wx.heap.size Wx w1 := ⟨hb0.os, hb0.tape, hb0.output, hb0.size, hb0.block⟩
        refine hK.out _ _ ⟨(hb1.cell (p := ⟨gx + 1, 0, none⟩) (by dsimp only; omega)).trans hx0, (hb1.cell (p := ⟨gx, 1, none⟩) (by dsimp only; omega)).trans hx1, (hb1.cell (p := ⟨gx + 1, 1, none⟩) (by dsimp only; omega)).trans hx2⟩ ?_
        clear hK K hS
        have hS : w1.cell? ⟨gx + 1, 0, none⟩ = some (.bool true) ∧ w1.cell? ⟨gx, 1, none⟩ = some (.slice A n c) ∧ w1.cell? ⟨gx + 1, 1, none⟩ = some (.slice A' n' c') := ⟨(hb1.cell (p := ⟨gx + 1, 0, none⟩) (by dsimp only; omega)).trans hx0, (hb1.cell (p := ⟨gx, 1, none⟩) (by dsimp only; omega)).trans hx1, (hb1.cell (p := ⟨gx + 1, 1, none⟩) (by dsimp only; omega)).trans hx2⟩
        try simp only [zA, zB, zC, Act.put, zD, zE, zF]
        refine HT.take (i := 7) (oi := _) (v := ?_) rfl (by kernel_rfl) (by kernel_rfl) (by decide) (fun _ _ _ h => h) (Or.inl ⟨by rfl, ?_⟩) hS ?_
        rotate_left
        · intro wz
          go_simp
          try with_reducible rfl
        simp only [zA, zB, zC, Act.put, zD, zE, zF]
        have H1 := Lib.hid h1
        have HB1 := Lib.hid (HBX.out.trans (hb1.mono HSX))
        have hhx := (hb1.block (gx + 1 + 1) hgw).trans HHR.out
        obtain ⟨hr0, hr1, hf0, hf1⟩ := two_cells hhx
        have HHX := Lib.hid hhx
        clear hb0 hb1 h1 hhx
        refine HT.done (by kernel_rfl) ?_
        clear hS
        simp only [List.drop_succ_cons, List.drop_zero]
        go_wp2_with fail
        exact end_intn rfl rfl rfl hr0 hr1 (outI_set (z := z + z') (neg := true) HSG.out (by have := HGX.out; omega) ⟨_, _, HHX.out⟩ (by rw [show (z + z').natAbs = z'.natAbs - z.natAbs by have := HNEG.out; have := HNEG'.out; have := HLT.out; simp at *; omega]; exact H1.out) HB1.out (by omega))
      by_cases h2 : z'.natAbs < z.natAbs
      · obtain rfl : k = 1 := by rw [← HK.out]; exact cmpN_gt h2
        have HSG : Hid (false = decide (z + z' < 0)) := by have h1 := HNEG.out; have h2 := HNEG'.out; show _ = _; simp at h1 h2 ⊢; omega
        have hle := Nat.le_of_lt h2
        have HLT := Lib.hid h2
        go_wp2_with fail
        refine wp_region_text 8 (fun x => x.cell? ⟨gx, 0, none⟩ = some (.bool false) ∧ x.cell? ⟨gx, 1, none⟩ = some (.slice A n c) ∧ x.cell? ⟨gx + 1, 1, none⟩ = some (.slice A' n' c')) (by kernel_rfl) (by kernel_rfl) ?_
        have hS : Wx.drew.cell? ⟨gx, 0, none⟩ = some (.bool false) ∧ Wx.drew.cell? ⟨gx, 1, none⟩ = some (.slice A n c) ∧ Wx.drew.cell? ⟨gx + 1, 1, none⟩ = some (.slice A' n' c') := ⟨hx0, hx1, hx2⟩
        refine HT.take (i := 0) (oi := _) (v := ?_) rfl (by kernel_rfl) (by kernel_rfl) (by decide) (fun _ _ _ h => h) (Or.inl ⟨by rfl, ?_⟩) hS ?_
        rotate_left
        · intro wz
          go_simp
          try with_reducible rfl
        simp only [zA, zB, zC, Act.put, zD, zE, zF]
        refine HT.load (i := 1) (oi := _) (v := ?_) rfl (by kernel_rfl) (by kernel_rfl) (by decide) (fun _ _ _ h => h) (by kernel_rfl) (Or.inl ⟨by rfl, ?_⟩) hS ?_
        rotate_left
        · intro wz hwz
          try dsimp only at hwz
          go_simp
          try with_reducible rfl
        simp only [zA, zB, zC, Act.put, zD, zE, zF]
        refine HT.take (i := 2) (oi := _) (v := ?_) rfl (by kernel_rfl) (by kernel_rfl) (by decide) (fun _ _ _ h => h) (Or.inl ⟨by rfl, ?_⟩) hS ?_
        rotate_left
        · intro wz
          go_simp
          try with_reducible rfl
        simp only [zA, zB, zC, Act.put, zD, zE, zF]
        refine HT.load (i := 3) (oi := _) (v := ?_) rfl (by kernel_rfl) (by kernel_rfl) (by decide) (fun _ _ _ h => h) (by kernel_rfl) (Or.inl ⟨by rfl, ?_⟩) hS ?_
        rotate_left
        · intro wz hwz
          try dsimp only at hwz
          go_simp
          try with_reducible rfl
        simp only [zA, zB, zC, Act.put, zD, zE, zF]
        refine HT.take (i := 4) (oi := _) (v := ?_) rfl (by kernel_rfl) (by kernel_rfl) (by decide) (fun _ _ _ h => h) (Or.inl ⟨by rfl, ?_⟩) hS ?_
        rotate_left
        · intro wz
          go_simp
          try with_reducible rfl
        simp only [zA, zB, zC, Act.put, zD, zE, zF]
        refine HT.load (i := 5) (oi := _) (v := ?_) rfl (by kernel_rfl) (by kernel_rfl) (by decide) (fun _ _ _ h => h) (by kernel_rfl) (Or.inl ⟨by rfl, ?_⟩) hS ?_
        rotate_left
        · intro wz hwz
          try dsimp only at hwz
          go_simp
          try with_reducible rfl
        simp only [zA, zB, zC, Act.put, zD, zE, zF]
        refine HT.one (i := 6) (o := _) rfl (by kernel_rfl) (by decide) (by rfl) ?_
        intro K hK
        go_simp
        refine (NSUB_any A A' n c _ n' c' _ hn hle _ Wx.heap.size (by exact Nat.le_refl _) (by exact HNW) (by exact HNW')).mono ?_
        rintro e w1 ⟨A1, n1, c1, rfl, h1, k1, hb0⟩
        have hb1 : Below Wx.heap.size Wx w1 := ⟨hb0.os, hb0.tape, hb0.output, hb0.size, hb0.block⟩
        refine hK.out _ _ ⟨(hb1.cell (p := ⟨gx, 0, none⟩) (by dsimp only; omega)).trans hx0, (hb1.cell (p := ⟨gx, 1, none⟩) (by dsimp only; omega)).trans hx1, (hb1.cell (p := ⟨gx + 1, 1, none⟩) (by dsimp only; omega)).trans hx2⟩ ?_
        clear hK K hS
        have hS : w1.cell? ⟨gx, 0, none⟩ = some (.bool false) ∧ w1.cell? ⟨gx, 1, none⟩ = some (.slice A n c) ∧ w1.cell? ⟨gx + 1, 1, none⟩ = some (.slice A' n' c') := ⟨(hb1.cell (p := ⟨gx, 0, none⟩) (by dsimp only; omega)).trans hx0, (hb1.cell (p := ⟨gx, 1, none⟩) (by dsimp only; omega)).trans hx1, (hb1.cell (p := ⟨gx + 1, 1, none⟩) (by dsimp only; omega)).trans hx2⟩
        try simp only [zA, zB, zC, Act.put, zD, zE, zF]
        refine HT.take (i := 7) (oi := _) (v := ?_) rfl (by kernel_rfl) (by kernel_rfl) (by decide) (fun _ _ _ h => h) (Or.inl ⟨by rfl, ?_⟩) hS ?_
        rotate_left
        · intro wz
          go_simp
          try with_reducible rfl
        simp only [zA, zB, zC, Act.put, zD, zE, zF]
        have H1 := Lib.hid h1
        have HB1 := Lib.hid (HBX.out.trans (hb1.mono HSX))
        have hhx := (hb1.block (gx + 1 + 1) hgw).trans HHR.out
        obtain ⟨hr0, hr1, hf0, hf1⟩ := two_cells hhx
        have HHX := Lib.hid hhx
        clear hb0 hb1 h1 hhx
        refine HT.done (by kernel_rfl) ?_
        clear hS
        simp only [List.drop_succ_cons, List.drop_zero]
        go_wp2_with fail
        exact end_intn rfl rfl rfl hr0 hr1 (outI_set (z := z + z') (neg := false) HSG.out (by have := HGX.out; omega) ⟨_, _, HHX.out⟩ (by rw [show (z + z').natAbs = z.natAbs - z'.natAbs by have := HNEG.out; have := HNEG'.out; have := HLT.out; simp at *; omega]; exact H1.out) HB1.out (by omega))
      · have he : z.natAbs = z'.natAbs := by omega
        obtain rfl : k = 0 := by rw [← HK.out]; exact cmpN_eq he
        have HZ : Hid (z + z' = 0) := by have h1 := HNEG.out; have h2 := HNEG'.out; show _ = _; simp at h1 h2; omega
        obtain ⟨hr0, hr1, hf0, hf1⟩ := two_cells HHR.out
        go_wp2_with fail
        exact end_intn rfl rfl rfl hr0 hr1 (outI_set (z := z + z') (neg := false) (by rw [HZ.out]; rfl) (by have := HGX.out; omega) ⟨_, _, HHR.out⟩ (by rw [HZ.out]; exact NumAt.nil _ _ _ _ _) HBX.out (Nat.zero_le _))
    | false =>
      have HSG : Hid (false = decide (z + z' < 0)) := by have h1 := HNEG.out; have h2 := HNEG'.out; show _ = _; simp at h1 h2 ⊢; omega
      go_enter Tryz.func70, Tryz.ntmps70
      go_wp2_with fail
      rw [← hW, ← hgx]
      obtain ⟨Wx, rfl⟩ : ∃ Wx : World, Wx = W := ⟨_, rfl⟩
      clear hW hgx
      refine wp_region_text 8 (fun x => x.cell? ⟨gx, 0, none⟩ = some (.bool false) ∧ x.cell? ⟨gx, 1, none⟩ = some (.slice A n c) ∧ x.cell? ⟨gx + 1, 1, none⟩ = some (.slice A' n' c')) (by kernel_rfl) (by kernel_rfl) ?_
      have hS : Wx.drew.cell? ⟨gx, 0, none⟩ = some (.bool false) ∧ Wx.drew.cell? ⟨gx, 1, none⟩ = some (.slice A n c) ∧ Wx.drew.cell? ⟨gx + 1, 1, none⟩ = some (.slice A' n' c') := ⟨hx0, hx1, hx2⟩
      refine HT.take (i := 0) (oi := _) (v := ?_) rfl (by kernel_rfl) (by kernel_rfl) (by decide) (fun _ _ _ h => h) (Or.inl ⟨by rfl, ?_⟩) hS ?_
      rotate_left
      · intro wz
        go_simp
        try with_reducible rfl
      simp only [zA, zB, zC, Act.put, zD, zE, zF]
      refine HT.load (i := 1) (oi := _) (v := ?_) rfl (by kernel_rfl) (by kernel_rfl) (by decide) (fun _ _ _ h => h) (by kernel_rfl) (Or.inl ⟨by rfl, ?_⟩) hS ?_
      rotate_left
      · intro wz hwz
        try dsimp only at hwz
        go_simp
        try with_reducible rfl
      simp only [zA, zB, zC, Act.put, zD, zE, zF]
      refine HT.take (i := 2) (oi := _) (v := ?_) rfl (by kernel_rfl) (by kernel_rfl) (by decide) (fun _ _ _ h => h) (Or.inl ⟨by rfl, ?_⟩) hS ?_
      rotate_left
      · intro wz
        go_simp
        try with_reducible rfl
      simp only [zA, zB, zC, Act.put, zD, zE, zF]
      refine HT.load (i := 3) (oi := _) (v := ?_) rfl (by kernel_rfl) (by kernel_rfl) (by decide) (fun _ _ _ h => h) (by kernel_rfl) (Or.inl ⟨by rfl, ?_⟩) hS ?_
      rotate_left
      · intro wz hwz
        try dsimp only at hwz
        go_simp
        try with_reducible rfl
      simp only [zA, zB, zC, Act.put, zD, zE, zF]
      refine HT.take (i := 4) (oi := _) (v := ?_) rfl (by kernel_rfl) (by kernel_rfl) (by decide) (fun _ _ _ h => h) (Or.inl ⟨by rfl, ?_⟩) hS ?_
      rotate_left
      · intro wz
        go_simp
        try with_reducible rfl
      simp only [zA, zB, zC, Act.put, zD, zE, zF]
      refine HT.load (i := 5) (oi := _) (v := ?_) rfl (by kernel_rfl) (by kernel_rfl) (by decide) (fun _ _ _ h => h) (by kernel_rfl) (Or.inl ⟨by rfl, ?_⟩) hS ?_
      rotate_left
      · intro wz hwz
        try dsimp only at hwz
        go_simp
        try with_reducible rfl
      simp only [zA, zB, zC, Act.put, zD, zE, zF]
      refine HT.one (i := 6) (o := _) rfl (by kernel_rfl) (by decide) (by rfl) ?_
      intro K hK
      go_simp
      refine (NADD_any A A' n c _ n' c' _ hn hn' _ Wx.heap.size (by exact Nat.le_refl _) (by exact HNW) (by exact HNW')).mono ?_
      rintro e w1 ⟨A1, n1, c1, rfl, h1, k1, hb0⟩
      have hb1 : Below Wx.heap.size Wx w1 := ⟨hb0.os, hb0.tape, hb0.output, hb0.size, hb0.block⟩
      refine hK.out _ _ ⟨(hb1.cell (p := ⟨gx, 0, none⟩) (by dsimp only; omega)).trans hx0, (hb1.cell (p := ⟨gx, 1, none⟩) (by dsimp only; omega)).trans hx1, (hb1.cell (p := ⟨gx + 1, 1, none⟩) (by dsimp only; omega)).trans hx2⟩ ?_
      clear hK K hS
      have hS : w1.cell? ⟨gx, 0, none⟩ = some (.bool false) ∧ w1.cell? ⟨gx, 1, none⟩ = some (.slice A n c) ∧ w1.cell? ⟨gx + 1, 1, none⟩ = some (.slice A' n' c') := ⟨(hb1.cell (p := ⟨gx, 0, none⟩) (by dsimp only; omega)).trans hx0, (hb1.cell (p := ⟨gx, 1, none⟩) (by dsimp only; omega)).trans hx1, (hb1.cell (p := ⟨gx + 1, 1, none⟩) (by dsimp only; omega)).trans hx2⟩
      try simp only [zA, zB, zC, Act.put, zD, zE, zF]
      refine HT.take (i := 7) (oi := _) (v := ?_) rfl (by kernel_rfl) (by kernel_rfl) (by decide) (fun _ _ _ h => h) (Or.inl ⟨by rfl, ?_⟩) hS ?_
      rotate_left
      · intro wz
        go_simp
        try with_reducible rfl
      simp only [zA, zB, zC, Act.put, zD, zE, zF]
      have H1 := Lib.hid h1
      have HB1 := Lib.hid (HBX.out.trans (hb1.mono HSX))
      have hhx := (hb1.block (gx + 1 + 1) hgw).trans HHR.out
      obtain ⟨hr0, hr1, hf0, hf1⟩ := two_cells hhx
      have HHX := Lib.hid hhx
      clear hb0 hb1 h1 hhx
      refine HT.done (by kernel_rfl) ?_
      clear hS
      simp only [List.drop_succ_cons, List.drop_zero]
      go_wp2_with fail
      exact end_intn rfl rfl rfl hr0 hr1 (outI_set (z := z + z') (neg := false) HSG.out (by have := HGX.out; omega) ⟨_, _, HHX.out⟩ (by rw [show (z + z').natAbs = z.natAbs + z'.natAbs by have := HNEG.out; have := HNEG'.out; simp at *; omega]; exact H1.out) HB1.out (by omega))
end Go.Proofs.YtkmcohnhanphdaaGreatDoor
