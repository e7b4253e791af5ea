/- num.Rat: Over. -/
import Derived.Test.YtkmcohnhanphdaaGreatDoorYg
set_option linter.unusedSimpArgs false
set_option linter.unusedVariables false
namespace Go.Proofs.YtkmcohnhanphdaaGreatDoor
open Go.RowKit Go.Dw
def RatAt (w : World) (B : Nat) (neg : Bool) (A : Option Addr) (n c : Nat) (A' : Option Addr) (n' c' : Nat) (q : Rat) : Prop := IntAt w B neg A n c q.num ∧ NumAt .u32 164 4294967296 w B A' n' c' q.den
def OutQ (w : World) (q : Rat) (k l : Nat) (e : Ending) (w' : World) : Prop := ∃ neg A n c A' n' c', e = .returned (.agg #[.bool neg, .slice A n c, .slice A' n' c']) ∧ RatAt w' w'.heap.size neg A n c A' n' c' q ∧ n ≤ k ∧ n' ≤ l ∧ Below w.heap.size w w'
theorem load_rat (w : World) (g : Nat) (v0 v1 v2 : Value) (h0 : w.cell? ⟨g, 0, none⟩ = some v0) (h1 : w.cell? ⟨g, 1, none⟩ = some v1) (h2 : w.cell? ⟨g, 2, none⟩ = some v2) :
    (loadVar 88 ⟨g, 0, none⟩).run Tryz.prog w = .ok (.agg #[v0, v1, v2]) w := by
  simp [loadVar, go_sem, h0, h1, h2]
theorem three_cells {w : World} {g : Nat} {v0 v1 v2 : Value} {T : TypeId} (h : w.heap[g]? = some (.cells #[v0, v1, v2] T (0, 0))) : w.cell? ⟨g, 0, none⟩ = some v0 ∧ w.cell? ⟨g, 1, none⟩ = some v1 ∧ w.cell? ⟨g, 2, none⟩ = some v2 ∧ w.frozen? ⟨g, 0, none⟩ = false ∧ w.frozen? ⟨g, 1, none⟩ = false ∧ w.frozen? ⟨g, 2, none⟩ = false := by
  refine ⟨?_, ?_, ?_, frozen_of_row w g 0 _ _ h, frozen_of_row w g 1 _ _ h, frozen_of_row w g 2 _ _ h⟩
  · rw [own_cell1 h 0]; rfl
  · rw [own_cell1 h 1]; rfl
  · rw [own_cell1 h 2]; rfl
theorem three_set (w : World) (g : Nat) (u0 u1 u2 v0 v1 v2 : Value) (h0 : w.cell? ⟨g, 0, none⟩ = some u0) (h1 : w.cell? ⟨g, 1, none⟩ = some u1) (h2 : w.cell? ⟨g, 2, none⟩ = some u2) :
    (((w.setCell ⟨g, 0, none⟩ v0).setCell ⟨g, 1, none⟩ v1).setCell ⟨g, 2, none⟩ v2).cell? ⟨g, 0, none⟩ = some v0 ∧ (((w.setCell ⟨g, 0, none⟩ v0).setCell ⟨g, 1, none⟩ v1).setCell ⟨g, 2, none⟩ v2).cell? ⟨g, 1, none⟩ = some v1 ∧ (((w.setCell ⟨g, 0, none⟩ v0).setCell ⟨g, 1, none⟩ v1).setCell ⟨g, 2, none⟩ v2).cell? ⟨g, 2, none⟩ = some v2 := by
  obtain ⟨k0, k1⟩ := two_set' w g u0 u1 v0 v1 h0 h1
  refine ⟨?_, ?_, ?_⟩
  · rw [World.cell?_setCell_other _ _ _ _ (by simp)]; exact k0
  · rw [World.cell?_setCell_other _ _ _ _ (by simp)]; exact k1
  · refine World.cell?_setCell_same _ _ _ (u := u2) ?_
    rw [World.cell?_setCell_other _ _ _ _ (by simp), World.cell?_setCell_other _ _ _ _ (by simp)]
    exact h2
theorem res_rat {fn : Func} {p : Tmp} (h : fn.results = #[.cell p 88]) {tmps : Array Value} {w : World} {g : Nat} {v0 v1 v2 : Value} (hp : tmps.getD p undef = .pointer (some ⟨g, 0, none⟩))
    (h0 : w.cell? ⟨g, 0, none⟩ = some v0) (h1 : w.cell? ⟨g, 1, none⟩ = some v1) (h2 : w.cell? ⟨g, 2, none⟩ = some v2) : (results fn tmps).run Tryz.prog w = .ok (.agg #[v0, v1, v2]) w := by
  have hp' : tmps[p]?.getD undef = .pointer (some ⟨g, 0, none⟩) := by simpa using hp
  simp [results, h, hp', asAddr, load_rat w g v0 v1 v2 h0 h1 h2]
theorem end_rat {fn : Func} {R : Ending → World → Prop} {a : Act} {w : World} {p : Tmp} {g : Nat} {v0 v1 v2 o0 o1 o2 : Value} (h : fn.results = #[.cell p 88]) (hp : a.tmps.getD p undef = .pointer (some ⟨g, 0, none⟩)) (hd : a.defers = []) (c0 : w.cell? ⟨g, 0, none⟩ = some o0) (c1 : w.cell? ⟨g, 1, none⟩ = some o1) (c2 : w.cell? ⟨g, 2, none⟩ = some o2)
    (hR : R (.returned (.agg #[v0, v1, v2])) (((w.setCell ⟨g, 0, none⟩ v0).setCell ⟨g, 1, none⟩ v1).setCell ⟨g, 2, none⟩ v2)) : bodyPost Tryz.prog fn R .ret a (((w.setCell ⟨g, 0, none⟩ v0).setCell ⟨g, 1, none⟩ v1).setCell ⟨g, 2, none⟩ v2) :=
  bodyPost_ret (res_rat h hp (three_set w g o0 o1 o2 v0 v1 v2 c0 c1 c2).1 (three_set w g o0 o1 o2 v0 v1 v2 c0 c1 c2).2.1 (three_set w g o0 o1 o2 v0 v1 v2 c0 c1 c2).2.2) hd hR
theorem outQ_set {w w1 : World} {gx : Nat} {neg : Bool} {A A' : Option Addr} {n c n' c' k l : Nat} {q : Rat} (hn : neg = decide (q.num < 0)) (hg : w.heap.size ≤ gx) (ht : TyAt 88 w1 gx) (h : NumAt .u32 164 4294967296 w1 w1.heap.size A n c q.num.natAbs) (h' : NumAt .u32 164 4294967296 w1 w1.heap.size A' n' c' q.den) (hb : Below w.heap.size w w1) (hk : n ≤ k) (hl : n' ≤ l) :
    OutQ w q k l (.returned (.agg #[.bool neg, .slice A n c, .slice A' n' c'])) (((w1.setCell ⟨gx, 0, none⟩ (.bool neg)).setCell ⟨gx, 1, none⟩ (.slice A n c)).setCell ⟨gx, 2, none⟩ (.slice A' n' c')) := by
  refine ⟨_, _, _, _, _, _, _, rfl, ⟨⟨hn, ?_⟩, ?_⟩, hk, hl, (set2_below' hb hg).setCell (p := ⟨gx, 2, none⟩) hg _⟩
  · refine NumAt.mono ?_ (show w1.heap.size ≤ _ by simp)
    exact ((h.set_far (p := ⟨gx, 0, none⟩) ht (by decide) _).set_far (p := ⟨gx, 1, none⟩) (ht.set _ _) (by decide) _).set_far (p := ⟨gx, 2, none⟩) ((ht.set _ _).set _ _) (by decide) _
  · refine NumAt.mono ?_ (show w1.heap.size ≤ _ by simp)
    exact ((h'.set_far (p := ⟨gx, 0, none⟩) ht (by decide) _).set_far (p := ⟨gx, 1, none⟩) (ht.set _ _) (by decide) _).set_far (p := ⟨gx, 2, none⟩) ((ht.set _ _).set _ _) (by decide) _
theorem mkRat_fields (z : Int) (d : Nat) (hd : 0 < d) : (mkRat z d).num = z / (Nat.gcd z.natAbs d : Nat) ∧ (mkRat z d).den = d / Nat.gcd z.natAbs d := by
  rw [Rat.mkRat_def, dif_neg (by omega), Rat.normalize_eq]
  exact ⟨rfl, rfl⟩
theorem div_gcd (z : Int) (g : Nat) (hg : 0 < g) (h : g ∣ z.natAbs) : (z / (g : Int)).natAbs = z.natAbs / g ∧ decide (z / (g : Int) < 0) = decide (z < 0) := by
  obtain ⟨t, rfl⟩ := Int.ofNat_dvd_left.2 h
  rw [Int.mul_ediv_cancel_left _ (by omega), Int.natAbs_mul, Int.natAbs_natCast, Nat.mul_div_cancel_left _ hg]
  refine ⟨rfl, ?_⟩
  rcases Int.lt_trichotomy t 0 with h1 | h1 | h1
  · have := Int.mul_neg_of_pos_of_neg (show (0 : Int) < g by omega) h1
    rw [decide_eq_true h1, decide_eq_true this]
  · subst h1; simp
  · have := Int.mul_pos (show (0 : Int) < g by omega) h1
    rw [decide_eq_false (by omega), decide_eq_false (by omega)]
theorem num_one {w : World} {B : Nat} {A : Option Addr} {c x : Nat} (h : NumAt .u32 164 4294967296 w B A 1 c x) : ∃ q o, A = some ⟨q, o, none⟩ ∧ q < B ∧ w.cell? ⟨q, o, none⟩ = some (.int .u32 x) ∧ x < 4294967296 := by
  have hx := h.lt_pow
  obtain ⟨_, _, xs, _, hv, hr⟩ := h
  obtain ⟨q, o, rfl, hq⟩ := hr.addr (by omega)
  obtain ⟨d, rfl⟩ : ∃ d, xs = [d] := by
    match xs, hr.1 with
    | [d], _ => exact ⟨d, rfl⟩
  rw [valB_single] at hv
  subst hv
  exact ⟨q, o, rfl, hq, hr.cell (i := 0) (by omega), by rwa [Nat.pow_one] at hx⟩
set_option maxRecDepth 100000 in
set_option maxHeartbeats 2000000 in
theorem QOVER_zero (neg : Bool) (A A' : Option Addr) (c n' c' : Nat) (w : World) :
    Calls Tryz.prog 62 #[.agg #[.bool neg, .slice A 0 c], .slice A' n' c'] w (OutQ w 0 0 1) := by
  obtain ⟨W, gx, hW, hgx, HHW, HBW, HSW⟩ := boxes2 w (.cells #[.bool neg, .slice A 0 c] 82) (.cells #[.bool false, .slice none 0 0, .slice none 0 0] 88)
  have HGX := Lib.hid hgx
  go_enter Tryz.func62, Tryz.ntmps62
  go_wp2_with fail
  rw [← hW, ← hgx]
  clear hW hgx
  refine (NONE_any _).mono ?_
  rintro e w1 ⟨A1, n1, c1, rfl, h1, k1, hb1⟩
  have hhx := (hb1.block (gx + 1) (blk_lt HHW.out.2)).trans HHW.out.2
  obtain ⟨hr0, hr1, hr2, hf0, hf1, hf2⟩ := three_cells hhx
  have HHX := Lib.hid hhx
  have hgx2 : gx + 1 < w1.heap.size := blk_lt hhx
  clear hhx
  have H1 := Lib.hid h1
  have HB1 := Lib.hid (HBW.out.trans (hb1.mono (by have := HSW.out; omega)))
  clear h1 hb1
  go_wp2_with fail
  exact end_rat rfl rfl rfl hr0 hr1 hr2 (outQ_set (q := 0) rfl (by have := HGX.out; omega) ⟨_, _, HHX.out⟩ (NumAt.nil _ _ _ _ _) H1.out HB1.out (Nat.le_refl _) k1)
theorem lowest_self {z : Int} {d : Nat} (hd : 0 < d) (h : Nat.gcd z.natAbs d = 1) : (mkRat z d).num = z ∧ (mkRat z d).den = d := by
  obtain ⟨h1, h2⟩ := mkRat_fields z d hd
  rw [h1, h2, h]
  exact ⟨by simp, by simp⟩
set_option maxRecDepth 100000 in
set_option maxHeartbeats 2000000 in
theorem QOVER_one (neg : Bool) (A A' : Option Addr) (n c c' : Nat) (z : Int) (hn : 0 < n) (w : World) (B : Nat) (hB : B ≤ w.heap.size) (hh : Hid (IntAt w B neg A n c z)) (hh' : Hid (NumAt .u32 164 4294967296 w B A' 1 c' 1)) :
    Calls Tryz.prog 62 #[.agg #[.bool neg, .slice A n c], .slice A' 1 c'] w (OutQ w (mkRat z 1) n 1) := by
  obtain ⟨W, gx, hW, hgx, HHW, HBW, HSW⟩ := boxes2 w (.cells #[.bool neg, .slice A n c] 82) (.cells #[.bool false, .slice none 0 0, .slice none 0 0] 88)
  have HGX := Lib.hid hgx
  obtain ⟨hc0, hc1, _, _⟩ := two_cells HHW.out.1
  obtain ⟨hr0, hr1, hr2, hf0, hf1, hf2⟩ := three_cells HHW.out.2
  obtain ⟨q, o, rfl, hq, hcell, _⟩ := num_one hh'.out
  have hcell := (HBW.out.cell (p := ⟨q, o, none⟩) (by dsimp only; omega)).trans hcell
  have hn0 : ((n : Int) == 0) = false := by simp; omega
  have HF := Lib.hid (lowest_self (z := z) (d := 1) (by omega) (Nat.gcd_one_right _))
  go_enter Tryz.func62, Tryz.ntmps62
  go_upto_region 1 with (fail)
  rw [← hW, ← hgx]
  clear hW hgx
  go_wp2_with fail
  exact end_rat rfl rfl rfl hr0 hr1 hr2 (outQ_set (q := mkRat z 1) (by rw [HF.out.1]; exact hh.out.1) (by have := HGX.out; omega) ⟨_, _, HHW.out.2⟩ (by rw [HF.out.1]; exact hh.out.2.to HBW.out hB (by have := HSW.out; omega)) (by rw [HF.out.2]; exact hh'.out.to HBW.out hB (by have := HSW.out; omega)) HBW.out (Nat.le_refl _) (Nat.le_refl _))
set_option maxRecDepth 100000 in
set_option maxHeartbeats 4000000 in
theorem QOVER_gcd (neg : Bool) (A A' : Option Addr) (n c n' c' d : Nat) (z : Int) (hn : n ≤ 100000000) (hn' : n' ≤ 100000000) (h0 : 0 < n) (hd : 0 < d) (hd1 : d ≠ 1) (w : World) (B : Nat) (hB : B ≤ w.heap.size) (hh : Hid (IntAt w B neg A n c z)) (hh' : Hid (NumAt .u32 164 4294967296 w B A' n' c' d)) :
    Calls Tryz.prog 62 #[.agg #[.bool neg, .slice A n c], .slice A' n' c'] w (OutQ w (mkRat z d) n n') := by
  obtain ⟨W, gx, hW, hgx, HHW, HBW, HSW⟩ := boxes2 w (.cells #[.bool neg, .slice A n c] 82) (.cells #[.bool false, .slice none 0 0, .slice none 0 0] 88)
  have HGX := Lib.hid hgx
  obtain ⟨hc0, hc1, _, _⟩ := two_cells HHW.out.1
  have HNW := Lib.hid (hh.out.2.to HBW.out hB (by have := HSW.out; omega))
  have HDW := Lib.hid (hh'.out.to HBW.out hB (by have := HSW.out; omega))
  have HNEG := Lib.hid hh.out.1
  have hn0 : ((n : Int) == 0) = false := by simp; omega
  have hdb : ((d : Int) == 1) = false := by simp; omega
  have HD0 := Lib.hid hd
  have hgp : 0 < Nat.gcd z.natAbs d := Nat.gcd_pos_of_pos_right _ hd
  have HDG := Lib.hid (div_gcd z (Nat.gcd z.natAbs d) hgp (Nat.gcd_dvd_left _ _))
  have HFF := Lib.hid (mkRat_fields z d hd)
  obtain ⟨g, hg⟩ : ∃ g, Nat.gcd z.natAbs d = g := ⟨_, rfl⟩
  have HG := Lib.hid hg
  rw [hg] at HFF HDG hgp
  clear hg hd hd1 hh hh'
  go_enter Tryz.func62, Tryz.ntmps62
  go_upto_region 3 with (fail)
  rw [← hW, ← hgx]
  clear hW hgx
  go_cut [24] (fun v wx => v = .bool false ∧ wx = W)
  case first =>
    by_cases hk1 : n' = 1
    · subst hk1
      obtain ⟨q, o, rfl, hq, hcell, hx9⟩ := num_one HDW.out
      go_wp2_with fail
      go_meet
      exact ⟨rfl, rfl⟩
    · have hk2 : ((n' : Int) == 1) = false := by simp; omega
      go_wp2_with fail
      go_meet
      exact ⟨rfl, rfl⟩
  obtain ⟨rfl, rfl⟩ := hcut
  go_wp2_with fail
  refine (GCD_any A A' n c _ n' c' d hn hn' _ wc.heap.size (Nat.le_refl _) HNW HDW).mono ?_
  rintro e w1 ⟨A1, n1, c1, rfl, h1, hb1⟩
  rw [HG.out] at h1
  have H1 := Lib.hid h1
  have HB1 := Lib.hid hb1
  have hhx := (hb1.block (gx + 1) (blk_lt HHW.out.2)).trans HHW.out.2
  obtain ⟨hr0, hr1, hr2, hf0, hf1, hf2⟩ := three_cells hhx
  have HHX := Lib.hid hhx
  have hgx2 : gx + 1 < w1.heap.size := blk_lt hhx
  clear hhx
  have hc0 := (hb1.cell (p := ⟨gx, 0, none⟩) (blk_lt HHW.out.1)).trans hc0
  have hc1 := (hb1.cell (p := ⟨gx, 1, none⟩) (blk_lt HHW.out.1)).trans hc1
  have hgx1 : gx < w1.heap.size := by omega
  clear h1 hb1
  obtain ⟨W1, rfl⟩ : ∃ W : World, W = w1 := ⟨_, rfl⟩
  by_cases hg1 : g = 1
  · subst hg1
    have hn1 : n1 = 1 := by
      have h1 := H1.out.len_le (m := 1) (by omega) (by omega)
      have h2 := (H1.out.pos_iff (by omega)).2 (by omega)
      omega
    subst hn1
    obtain ⟨q, o, rfl, hq, hcell, hx9⟩ := num_one H1.out
    go_wp2_with fail
    have HF := HFF.out
    rw [Int.natCast_one, Int.ediv_one, Nat.div_one] at HF
    exact end_rat rfl rfl rfl hr0 hr1 hr2 (outQ_set (q := mkRat z d) (by rw [HF.1]; exact HNEG.out) (by have := HGX.out; omega) ⟨_, _, HHX.out⟩ (by rw [HF.1]; exact HNW.out.to HB1.out (Nat.le_refl _) HB1.out.size) (by rw [HF.2]; exact HDW.out.to HB1.out (Nat.le_refl _) HB1.out.size) (HBW.out.trans (HB1.out.mono (by have := HSW.out; omega))) (Nat.le_refl _) (Nat.le_refl _))
  · have hgb : ((g : Int) == 1) = false := by simp; omega
    go_upto_region 6 with (fail)
    go_cut [40] (fun v wx => v = .bool false ∧ wx = W1)
    case first =>
      by_cases hk1 : n1 = 1
      · subst hk1
        obtain ⟨q, o, rfl, hq, hcell, hx9⟩ := num_one H1.out
        go_wp2_with fail
        go_meet
        exact ⟨rfl, rfl⟩
      · have hk2 : ((n1 : Int) == 1) = false := by simp; omega
        go_wp2_with fail
        go_meet
        exact ⟨rfl, rfl⟩
    obtain ⟨rfl, rfl⟩ := hcut
    clear hn0 hdb hgb
    go_wp2_with fail
    refine (NDIV_any A A1 n c _ n1 c1 g hn hgp _ wc.heap.size (Nat.le_refl _) (Lib.hid (HNW.out.to HB1.out (Nat.le_refl _) HB1.out.size)) H1).mono ?_
    rintro e w2 ⟨A2, n2, c2, A3, n3, c3, rfl, h1, h2, k1, k2, hb2⟩
    have H2 := Lib.hid h1
    have HB2 := Lib.hid (HB1.out.trans (hb2.mono HB1.out.size))
    have HG2 := Lib.hid (H1.out.to hb2 (Nat.le_refl _) hb2.size)
    have hc0 := (hb2.cell (p := ⟨gx, 0, none⟩) (by dsimp only; omega)).trans hc0
    clear h1 h2 hb2
    go_wp2_with fail
    refine (NDIV_any A' A1 n' c' d n1 c1 g hn' hgp _ w2.heap.size (Nat.le_refl _) (Lib.hid (HDW.out.to HB2.out (Nat.le_refl _) HB2.out.size)) HG2).mono ?_
    rintro e w3 ⟨A4, n4, c4, A5, n5, c5, rfl, h1, h2, k3, k4, hb3⟩
    have H4 := Lib.hid h1
    have H23 := Lib.hid (H2.out.to hb3 (Nat.le_refl _) hb3.size)
    have HB3 := Lib.hid (HB2.out.trans (hb3.mono HB2.out.size))
    have hc0 := (hb3.cell (p := ⟨gx, 0, none⟩) (by have := HB2.out.size; have := blk_lt HHW.out.1; dsimp only; omega)).trans hc0
    clear h1 h2 hb3 hr0 hr1 hr2 hf0 hf1 hf2 HHX hgx2
    have hb3 := HB3.out
    have hhx := (hb3.block (gx + 1) (blk_lt HHW.out.2)).trans HHW.out.2
    obtain ⟨hr0, hr1, hr2, hf0, hf1, hf2⟩ := three_cells hhx
    have HHX := Lib.hid hhx
    have hgx2 : gx + 1 < w3.heap.size := blk_lt hhx
    clear hhx
    clear hb3
    go_wp2_with fail
    exact end_rat rfl rfl rfl hr0 hr1 hr2 (outQ_set (q := mkRat z d) (by rw [HFF.out.1, HDG.out.2]; exact HNEG.out) (by have := HGX.out; omega) ⟨_, _, HHX.out⟩ (by rw [HFF.out.1, HDG.out.1]; exact H23.out) (by rw [HFF.out.2]; exact H4.out) (HBW.out.trans (HB3.out.mono (by have := HSW.out; omega))) k1 k3)
theorem QOVER_any (neg : Bool) (A A' : Option Addr) (n c n' c' d : Nat) (z : Int) (hn : n ≤ 100000000) (hn' : n' ≤ 100000000) (hd : 0 < d) (w : World) (B : Nat) (hB : B ≤ w.heap.size) (hh : Hid (IntAt w B neg A n c z)) (hh' : Hid (NumAt .u32 164 4294967296 w B A' n' c' d)) :
    Calls Tryz.prog 62 #[.agg #[.bool neg, .slice A n c], .slice A' n' c'] w (OutQ w (mkRat z d) n n') := by
  have hn0 := (hh'.out.pos_iff (by omega)).2 hd
  by_cases h0 : n = 0
  · subst h0
    have hz : z = 0 := by
      have h1 := hh.out.2.pos_iff (by omega)
      omega
    subst hz
    rw [Rat.zero_mkRat]
    exact (QOVER_zero neg A A' c n' c' w).mono fun e w' ⟨a1, a2, a3, a4, a5, a6, a7, h1, h2, h3, h4, h5⟩ => ⟨a1, a2, a3, a4, a5, a6, a7, h1, h2, h3, by omega, h5⟩
  by_cases h1 : d = 1
  · subst h1
    have hn1 : n' = 1 := by
      have h1 := hh'.out.len_le (m := 1) (by omega) (by omega)
      omega
    subst hn1
    exact QOVER_one neg A A' n c c' z (by omega) w B hB hh hh'
  · exact QOVER_gcd neg A A' n c n' c' d z hn hn' (by omega) hd h1 w B hB hh hh'
end Go.Proofs.YtkmcohnhanphdaaGreatDoor
/- num.Rat: Mul, Div, Cmp, Sign, Add. -/
namespace Go.Proofs.YtkmcohnhanphdaaGreatDoor
open Go.RowKit Go.Dw
theorem RatAt.to {w w' : World} {B B' : Nat} {neg : Bool} {A A' : Option Addr} {n c n' c' : Nat} {q : Rat} (h : RatAt w B neg A n c A' n' c' q) (hb : Below B' w w') (hB : B ≤ B') (hC : B ≤ w'.heap.size) : RatAt w' w'.heap.size neg A n c A' n' c' q := ⟨h.1.to hb hB hC, h.2.to hb hB hC⟩
theorem six_keep {W w1 : World} {g g' : Nat} {v0 v1 v2 u0 u1 u2 : Value} (h : W.cell? ⟨g, 0, none⟩ = some v0 ∧ W.cell? ⟨g, 1, none⟩ = some v1 ∧ W.cell? ⟨g, 2, none⟩ = some v2 ∧ W.cell? ⟨g', 0, none⟩ = some u0 ∧ W.cell? ⟨g', 1, none⟩ = some u1 ∧ W.cell? ⟨g', 2, none⟩ = some u2)
    (hb : Below W.heap.size W w1) (hg : g < W.heap.size) (hg' : g' < W.heap.size) : w1.cell? ⟨g, 0, none⟩ = some v0 ∧ w1.cell? ⟨g, 1, none⟩ = some v1 ∧ w1.cell? ⟨g, 2, none⟩ = some v2 ∧ w1.cell? ⟨g', 0, none⟩ = some u0 ∧ w1.cell? ⟨g', 1, none⟩ = some u1 ∧ w1.cell? ⟨g', 2, none⟩ = some u2 :=
  ⟨(hb.cell (p := ⟨g, 0, none⟩) hg).trans h.1, (hb.cell (p := ⟨g, 1, none⟩) hg).trans h.2.1, (hb.cell (p := ⟨g, 2, none⟩) hg).trans h.2.2.1, (hb.cell (p := ⟨g', 0, none⟩) hg').trans h.2.2.2.1, (hb.cell (p := ⟨g', 1, none⟩) hg').trans h.2.2.2.2.1, (hb.cell (p := ⟨g', 2, none⟩) hg').trans h.2.2.2.2.2⟩
theorem below_undrew {B : Nat} {w w' : World} (h : Below B w.drew w') : Below B w w' := ⟨h.os, h.tape, h.output, h.size, h.block⟩
theorem den_int {w : World} {B : Nat} {A : Option Addr} {n c x : Nat} (h : NumAt .u32 164 4294967296 w B A n c x) : IntAt w B false A n c (x : Int) := ⟨by simp, by simpa using h⟩
set_option maxRecDepth 100000 in
set_option maxHeartbeats 4000000 in
theorem QMUL_any (neg neg' : Bool) (A A' D D' : Option Addr) (n c m d n' c' m' d' : Nat) (q r : Rat) (hn : n ≤ 10000000) (hm : m ≤ 10000000) (hn' : n' ≤ 10000000) (hm' : m' ≤ 10000000) (w : World) (B : Nat) (hB : B ≤ w.heap.size) (hh : Hid (RatAt w B neg A n c D m d q)) (hh' : Hid (RatAt w B neg' A' n' c' D' m' d' r)) :
    Calls Tryz.prog 96 #[.agg #[.bool neg, .slice A n c, .slice D m d], .agg #[.bool neg', .slice A' n' c', .slice D' m' d']] w (OutQ w (q * r) (n + n') (m + m')) := by
  obtain ⟨W, gx, hW, hgx, HHW, HBX, HSW⟩ := boxes3 w (.cells #[.bool neg, .slice A n c, .slice D m d] 88) (.cells #[.bool neg', .slice A' n' c', .slice D' m' d'] 88) (.cells #[.bool false, .slice none 0 0, .slice none 0 0] 88)
  have HGX := Lib.hid hgx
  obtain ⟨x0, x1, x2, _, _, _⟩ := three_cells HHW.out.1
  obtain ⟨y0, y1, y2, _, _, _⟩ := three_cells HHW.out.2.1
  have HHR := Lib.hid HHW.out.2.2
  have hgw := blk_lt HHW.out.2.2
  have HRW := Lib.hid (hh.out.to HBX.out hB (by have := HSW.out; omega))
  have HRW' := Lib.hid (hh'.out.to HBX.out hB (by have := HSW.out; omega))
  have HBX0 := Lib.hid (HBX.out.size)
  go_enter Tryz.func96, Tryz.ntmps96
  go_upto_region 1 with (fail)
  rw [← hW, ← hgx]
  clear hW hgx
  obtain ⟨W, rfl⟩ : ∃ Wx : World, Wx = W := ⟨_, rfl⟩
  refine wp_region_text 11 (fun x => x.cell? ⟨gx, 0, none⟩ = some (.bool neg) ∧ x.cell? ⟨gx, 1, none⟩ = some (.slice A n c) ∧ x.cell? ⟨gx, 2, none⟩ = some (.slice D m d) ∧ x.cell? ⟨gx + 1, 0, none⟩ = some (.bool neg') ∧ x.cell? ⟨gx + 1, 1, none⟩ = some (.slice A' n' c') ∧ x.cell? ⟨gx + 1, 2, none⟩ = some (.slice D' m' d')) (by kernel_rfl) (by kernel_rfl) ?_
  have hS : W.drew.cell? ⟨gx, 0, none⟩ = some (.bool neg) ∧ W.drew.cell? ⟨gx, 1, none⟩ = some (.slice A n c) ∧ W.drew.cell? ⟨gx, 2, none⟩ = some (.slice D m d) ∧ W.drew.cell? ⟨gx + 1, 0, none⟩ = some (.bool neg') ∧ W.drew.cell? ⟨gx + 1, 1, none⟩ = some (.slice A' n' c') ∧ W.drew.cell? ⟨gx + 1, 2, none⟩ = some (.slice D' m' d') := ⟨x0, x1, x2, y0, y1, y2⟩
  have hS0 := And.intro x0 (And.intro x1 (And.intro x2 (And.intro y0 (And.intro y1 y2))))
  refine HT.take (i := 0) (oi := _) (v := ?_) rfl (by kernel_rfl) (by kernel_rfl) (by decide) (fun _ _ _ h => h) (Or.inl ⟨by rfl, ?_⟩) hS ?_
  rotate_left
  · intro wz
    go_simp
    try with_reducible rfl
  simp only [zA, zB, zC, Act.put, zD, zE, zF]
  refine HT.load (i := 1) (oi := _) (v := ?_) rfl (by kernel_rfl) (by kernel_rfl) (by decide) (fun _ _ _ h => h) (by kernel_rfl) (Or.inl ⟨by rfl, ?_⟩) hS ?_
  rotate_left
  · intro wz hwz
    try dsimp only at hwz
    go_simp
    try with_reducible rfl
  simp only [zA, zB, zC, Act.put, zD, zE, zF]
  refine HT.take (i := 2) (oi := _) (v := ?_) rfl (by kernel_rfl) (by kernel_rfl) (by decide) (fun _ _ _ h => h) (Or.inl ⟨by rfl, ?_⟩) hS ?_
  rotate_left
  · intro wz
    go_simp
    try with_reducible rfl
  simp only [zA, zB, zC, Act.put, zD, zE, zF]
  refine HT.load (i := 3) (oi := _) (v := ?_) rfl (by kernel_rfl) (by kernel_rfl) (by decide) (fun _ _ _ h => h) (by kernel_rfl) (Or.inl ⟨by rfl, ?_⟩) hS ?_
  rotate_left
  · intro wz hwz
    try dsimp only at hwz
    go_simp
    try with_reducible rfl
  simp only [zA, zB, zC, Act.put, zD, zE, zF]
  refine HT.take (i := 5) (oi := _) (v := ?_) rfl (by kernel_rfl) (by kernel_rfl) (by decide) (fun _ _ _ h => h) (Or.inl ⟨by rfl, ?_⟩) hS ?_
  rotate_left
  · intro wz
    go_simp
    try with_reducible rfl
  simp only [zA, zB, zC, Act.put, zD, zE, zF]
  refine HT.load (i := 6) (oi := _) (v := ?_) rfl (by kernel_rfl) (by kernel_rfl) (by decide) (fun _ _ _ h => h) (by kernel_rfl) (Or.inl ⟨by rfl, ?_⟩) hS ?_
  rotate_left
  · intro wz hwz
    try dsimp only at hwz
    go_simp
    try with_reducible rfl
  simp only [zA, zB, zC, Act.put, zD, zE, zF]
  refine HT.take (i := 7) (oi := _) (v := ?_) rfl (by kernel_rfl) (by kernel_rfl) (by decide) (fun _ _ _ h => h) (Or.inl ⟨by rfl, ?_⟩) hS ?_
  rotate_left
  · intro wz
    go_simp
    try with_reducible rfl
  simp only [zA, zB, zC, Act.put, zD, zE, zF]
  refine HT.load (i := 8) (oi := _) (v := ?_) rfl (by kernel_rfl) (by kernel_rfl) (by decide) (fun _ _ _ h => h) (by kernel_rfl) (Or.inl ⟨by rfl, ?_⟩) hS ?_
  rotate_left
  · intro wz hwz
    try dsimp only at hwz
    go_simp
    try with_reducible rfl
  simp only [zA, zB, zC, Act.put, zD, zE, zF]
  refine HT.one (i := 4) (o := _) rfl (by kernel_rfl) (by decide) (by rfl) ?_
  intro K hK
  go_simp
  refine (IMUL_any neg neg' A A' n c n' c' q.num r.num (by omega) (by omega) _ W.heap.size (by exact Nat.le_refl _) (by exact Lib.hid HRW.out.1) (by exact Lib.hid HRW'.out.1)).mono ?_
  rintro e w1 ⟨ng1, A1, n1, c1, rfl, h1, k1, hb1⟩
  replace hb1 : Below W.heap.size W w1 := below_undrew hb1
  have H1 := Lib.hid h1
  have HB1 := Lib.hid hb1
  clear h1 hb1
  refine hK.out _ _ (six_keep hS0 HB1.out (by omega) (by omega)) ?_
  clear hK K hS
  have hS := six_keep hS0 HB1.out (by omega) (by omega)
  try simp only [zA, zB, zC, Act.put, zD, zE, zF]
  refine HT.one (i := 9) (o := _) rfl (by kernel_rfl) (by decide) (by rfl) ?_
  intro K hK
  go_simp
  refine (NMUL_any D D' m d _ m' d' _ (by omega) (by omega) _ W.heap.size (by exact HB1.out.size) (by exact Lib.hid (HRW.out.2.below HB1.out (Nat.le_refl _))) (by exact Lib.hid (HRW'.out.2.below HB1.out (Nat.le_refl _)))).mono ?_
  rintro e w2 ⟨A2, n2, c2, rfl, h2, k2, hb2⟩
  have H2 := Lib.hid h2
  have HB2 := Lib.hid (HB1.out.trans (hb2.mono HB1.out.size))
  have HL2 := Lib.hid hb2
  clear h2 hb2
  refine hK.out _ _ (six_keep hS0 HB2.out (by omega) (by omega)) ?_
  clear hK K hS
  have hS := six_keep hS0 HB2.out (by omega) (by omega)
  try simp only [zA, zB, zC, Act.put, zD, zE, zF]
  refine HT.one (i := 10) (o := _) rfl (by kernel_rfl) (by decide) (by rfl) ?_
  intro K hK
  go_simp
  refine (QOVER_any ng1 A1 A2 n1 c1 n2 c2 (q.den * r.den) (q.num * r.num) (by omega) (by omega) (Nat.mul_pos q.den_pos r.den_pos) _ w2.heap.size (Nat.le_refl _) (Lib.hid (H1.out.to HL2.out (Nat.le_refl _) HL2.out.size)) H2).mono ?_
  rintro e w3 ⟨ng3, A3, n3, c3, A4, n4, c4, rfl, h3, k3, k4, hb3⟩
  have H3 := Lib.hid h3
  have HB3 := Lib.hid (HB2.out.trans (hb3.mono HB2.out.size))
  have HL3 := Lib.hid hb3
  clear h3 hb3
  refine hK.out _ _ (six_keep hS0 HB3.out (by omega) (by omega)) ?_
  clear hK K hS
  have hS := six_keep hS0 HB3.out (by omega) (by omega)
  try simp only [zA, zB, zC, Act.put, zD, zE, zF]
  have hhx := (HB3.out.block (gx + 1 + 1) hgw).trans HHR.out
  obtain ⟨hr0, hr1, hr2, hf0, hf1, hf2⟩ := three_cells hhx
  have HHX := Lib.hid hhx
  clear hhx
  refine HT.done (by kernel_rfl) ?_
  clear hS
  simp only [List.drop_succ_cons, List.drop_zero]
  go_wp2_with fail
  have HQ : q * r = mkRat (q.num * r.num) (q.den * r.den) := by rw [Rat.mul_def, Rat.normalize_eq_mkRat]
  rw [HQ]
  exact end_rat rfl rfl rfl hr0 hr1 hr2 (outQ_set (q := mkRat (q.num * r.num) (q.den * r.den)) H3.out.1.1 (by have := HGX.out; omega) ⟨_, _, HHX.out⟩ H3.out.1.2 H3.out.2 (HBX.out.trans (HB3.out.mono HBX0.out)) (by omega) (by omega))
def cmpQ (q r : Rat) : Int := cmpZ (q.num * r.den) (r.num * q.den)
set_option maxRecDepth 100000 in
set_option maxHeartbeats 4000000 in
theorem QCMP_any (neg neg' : Bool) (A A' D D' : Option Addr) (n c m d n' c' m' d' : Nat) (q r : Rat) (hn : n ≤ 10000000) (hm : m ≤ 10000000) (hn' : n' ≤ 10000000) (hm' : m' ≤ 10000000) (w : World) (B : Nat) (hB : B ≤ w.heap.size) (hh : Hid (RatAt w B neg A n c D m d q)) (hh' : Hid (RatAt w B neg' A' n' c' D' m' d' r)) :
    Calls Tryz.prog 99 #[.agg #[.bool neg, .slice A n c, .slice D m d], .agg #[.bool neg', .slice A' n' c', .slice D' m' d']] w fun e w' => e = .returned (.int .i64 (cmpQ q r)) ∧ Below w.heap.size w w' := by
  obtain ⟨W, gx, hW, hgx, HHW, HBX, HSW⟩ := boxes2 w (.cells #[.bool neg, .slice A n c, .slice D m d] 88) (.cells #[.bool neg', .slice A' n' c', .slice D' m' d'] 88)
  have HGX := Lib.hid hgx
  obtain ⟨x0, x1, x2, _, _, _⟩ := three_cells HHW.out.1
  obtain ⟨y0, y1, y2, _, _, _⟩ := three_cells HHW.out.2
  have hgw := blk_lt HHW.out.2
  have HRW := Lib.hid (hh.out.to HBX.out hB (by have := HSW.out; omega))
  have HRW' := Lib.hid (hh'.out.to HBX.out hB (by have := HSW.out; omega))
  have HBX0 := Lib.hid (HBX.out.size)
  go_enter Tryz.func99, Tryz.ntmps99
  go_upto_region 1 with (fail)
  rw [← hW, ← hgx]
  clear hW hgx
  obtain ⟨W, rfl⟩ : ∃ Wx : World, Wx = W := ⟨_, rfl⟩
  refine wp_region_text 13 (fun x => x.cell? ⟨gx, 0, none⟩ = some (.bool neg) ∧ x.cell? ⟨gx, 1, none⟩ = some (.slice A n c) ∧ x.cell? ⟨gx, 2, none⟩ = some (.slice D m d) ∧ x.cell? ⟨gx + 1, 0, none⟩ = some (.bool neg') ∧ x.cell? ⟨gx + 1, 1, none⟩ = some (.slice A' n' c') ∧ x.cell? ⟨gx + 1, 2, none⟩ = some (.slice D' m' d')) (by kernel_rfl) (by kernel_rfl) ?_
  have hS : W.drew.cell? ⟨gx, 0, none⟩ = some (.bool neg) ∧ W.drew.cell? ⟨gx, 1, none⟩ = some (.slice A n c) ∧ W.drew.cell? ⟨gx, 2, none⟩ = some (.slice D m d) ∧ W.drew.cell? ⟨gx + 1, 0, none⟩ = some (.bool neg') ∧ W.drew.cell? ⟨gx + 1, 1, none⟩ = some (.slice A' n' c') ∧ W.drew.cell? ⟨gx + 1, 2, none⟩ = some (.slice D' m' d') := ⟨x0, x1, x2, y0, y1, y2⟩
  have hS0 := And.intro x0 (And.intro x1 (And.intro x2 (And.intro y0 (And.intro y1 y2))))
  refine HT.take (i := 0) (oi := _) (v := ?_) rfl (by kernel_rfl) (by kernel_rfl) (by decide) (fun _ _ _ h => h) (Or.inl ⟨by rfl, ?_⟩) hS ?_
  rotate_left
  · intro wz
    go_simp
    try with_reducible rfl
  simp only [zA, zB, zC, Act.put, zD, zE, zF]
  refine HT.load (i := 1) (oi := _) (v := ?_) rfl (by kernel_rfl) (by kernel_rfl) (by decide) (fun _ _ _ h => h) (by kernel_rfl) (Or.inl ⟨by rfl, ?_⟩) hS ?_
  rotate_left
  · intro wz hwz
    try dsimp only at hwz
    go_simp
    try with_reducible rfl
  simp only [zA, zB, zC, Act.put, zD, zE, zF]
  refine HT.take (i := 2) (oi := _) (v := ?_) rfl (by kernel_rfl) (by kernel_rfl) (by decide) (fun _ _ _ h => h) (Or.inl ⟨by rfl, ?_⟩) hS ?_
  rotate_left
  · intro wz
    go_simp
    try with_reducible rfl
  simp only [zA, zB, zC, Act.put, zD, zE, zF]
  refine HT.load (i := 3) (oi := _) (v := ?_) rfl (by kernel_rfl) (by kernel_rfl) (by decide) (fun _ _ _ h => h) (by kernel_rfl) (Or.inl ⟨by rfl, ?_⟩) hS ?_
  rotate_left
  · intro wz hwz
    try dsimp only at hwz
    go_simp
    try with_reducible rfl
  simp only [zA, zB, zC, Act.put, zD, zE, zF]
  refine HT.take (i := 4) (oi := _) (v := ?_) rfl (by kernel_rfl) (by kernel_rfl) (by decide) (fun _ _ _ h => h) (Or.inl ⟨by rfl, ?_⟩) hS ?_
  rotate_left
  · intro wz
    go_simp
    try with_reducible rfl
  simp only [zA, zB, zC, Act.put, zD, zE, zF]
  refine HT.take (i := 6) (oi := _) (v := ?_) rfl (by kernel_rfl) (by kernel_rfl) (by decide) (fun _ _ _ h => h) (Or.inl ⟨by rfl, ?_⟩) hS ?_
  rotate_left
  · intro wz
    go_simp
    try with_reducible rfl
  simp only [zA, zB, zC, Act.put, zD, zE, zF]
  refine HT.load (i := 7) (oi := _) (v := ?_) rfl (by kernel_rfl) (by kernel_rfl) (by decide) (fun _ _ _ h => h) (by kernel_rfl) (Or.inl ⟨by rfl, ?_⟩) hS ?_
  rotate_left
  · intro wz hwz
    try dsimp only at hwz
    go_simp
    try with_reducible rfl
  simp only [zA, zB, zC, Act.put, zD, zE, zF]
  refine HT.take (i := 8) (oi := _) (v := ?_) rfl (by kernel_rfl) (by kernel_rfl) (by decide) (fun _ _ _ h => h) (Or.inl ⟨by rfl, ?_⟩) hS ?_
  rotate_left
  · intro wz
    go_simp
    try with_reducible rfl
  simp only [zA, zB, zC, Act.put, zD, zE, zF]
  refine HT.load (i := 9) (oi := _) (v := ?_) rfl (by kernel_rfl) (by kernel_rfl) (by decide) (fun _ _ _ h => h) (by kernel_rfl) (Or.inl ⟨by rfl, ?_⟩) hS ?_
  rotate_left
  · intro wz hwz
    try dsimp only at hwz
    go_simp
    try with_reducible rfl
  simp only [zA, zB, zC, Act.put, zD, zE, zF]
  refine HT.take (i := 10) (oi := _) (v := ?_) rfl (by kernel_rfl) (by kernel_rfl) (by decide) (fun _ _ _ h => h) (Or.inl ⟨by rfl, ?_⟩) hS ?_
  rotate_left
  · intro wz
    go_simp
    try with_reducible rfl
  simp only [zA, zB, zC, Act.put, zD, zE, zF]
  refine HT.one (i := 5) (o := _) rfl (by kernel_rfl) (by decide) (by rfl) ?_
  intro K hK
  go_simp
  refine (IMUL_any neg false A D' n c m' d' q.num r.den (by omega) (by omega) _ W.heap.size (by exact Nat.le_refl _) (by exact Lib.hid HRW.out.1) (by exact Lib.hid (den_int HRW'.out.2))).mono ?_
  rintro e w1 ⟨ng1, A1, n1, c1, rfl, h1, k1, hb1⟩
  replace hb1 : Below W.heap.size W w1 := below_undrew hb1
  have H1 := Lib.hid h1
  have HB1 := Lib.hid hb1
  clear h1 hb1
  refine hK.out _ _ (six_keep hS0 HB1.out (by omega) (by omega)) ?_
  clear hK K hS
  have hS := six_keep hS0 HB1.out (by omega) (by omega)
  try simp only [zA, zB, zC, Act.put, zD, zE, zF]
  refine HT.one (i := 11) (o := _) rfl (by kernel_rfl) (by decide) (by rfl) ?_
  intro K hK
  go_simp
  refine (IMUL_any neg' false A' D n' c' m d r.num q.den (by omega) (by omega) _ W.heap.size (by exact HB1.out.size) (by exact Lib.hid (HRW'.out.1.below HB1.out (Nat.le_refl _))) (by exact Lib.hid (den_int (HRW.out.2.below HB1.out (Nat.le_refl _))))).mono ?_
  rintro e w2 ⟨ng2, A2, n2, c2, rfl, h2, k2, hb2⟩
  have H2 := Lib.hid h2
  have HB2 := Lib.hid (HB1.out.trans (hb2.mono HB1.out.size))
  have HL2 := Lib.hid hb2
  clear h2 hb2
  refine hK.out _ _ (six_keep hS0 HB2.out (by omega) (by omega)) ?_
  clear hK K hS
  have hS := six_keep hS0 HB2.out (by omega) (by omega)
  try simp only [zA, zB, zC, Act.put, zD, zE, zF]
  refine HT.one (i := 12) (o := _) rfl (by kernel_rfl) (by decide) (by rfl) ?_
  intro K hK
  go_simp
  refine (ICMP_any ng1 ng2 A1 A2 n1 c1 n2 c2 (q.num * r.den) (r.num * q.den) _ w2.heap.size (Nat.le_refl _) (Lib.hid (H1.out.to HL2.out (Nat.le_refl _) HL2.out.size)) H2).mono ?_
  rintro e w3 ⟨rfl, hb3⟩
  have HB3 := Lib.hid (HB2.out.trans (hb3.mono HB2.out.size))
  clear hb3
  refine hK.out _ _ (six_keep hS0 HB3.out (by omega) (by omega)) ?_
  clear hK K hS
  have hS := six_keep hS0 HB3.out (by omega) (by omega)
  try simp only [zA, zB, zC, Act.put, zD, zE, zF]
  refine HT.done (by kernel_rfl) ?_
  clear hS
  simp only [List.drop_succ_cons, List.drop_zero]
  go_wp2_with fail
  go_ret
  exact ⟨rfl, HBX.out.trans (HB3.out.mono HBX0.out)⟩
end Go.Proofs.YtkmcohnhanphdaaGreatDoor
