/- ClockAcrossGoesThrough: the plain law and the walk. -/
import Derived.Test.YthjmhdnamhifjaaDoorAcr
import Derived.Test.YthjmhdnamhifjaaDoorAwk
set_option linter.unusedSimpArgs false
set_option linter.unusedVariables false
namespace Go.Proofs.YthjmhdnamhifjaaDoor
open Go.RowKit Go.Dw Go.Joins
theorem lineQ_mono {p q : Pr} {a b : Int} (h1 : p.1 < q.1) (h2 : p.2 < q.2) (h : a ≤ b) : lineQ p q a ≤ lineQ p q b := by
  unfold lineQ
  have e1 : (0 : Rat) ≤ ((q.2 - p.2 : Int) : Rat) := by
    have := Rat.intCast_le_intCast.2 (show (0 : Int) ≤ q.2 - p.2 by omega); exact this
  have e2 : (0 : Rat) < ((q.1 - p.1 : Int) : Rat) := by
    have := Rat.intCast_lt_intCast.2 (show (0 : Int) < q.1 - p.1 by omega); exact this
  have e3 : ((a - p.1 : Int) : Rat) ≤ ((b - p.1 : Int) : Rat) := Rat.intCast_le_intCast.2 (by omega)
  have e4 := Rat.mul_le_mul_of_nonneg_right e3 e1
  have e5 : (0 : Rat) ≤ ((q.1 - p.1 : Int) : Rat)⁻¹ := Rat.le_of_lt (Rat.inv_pos.2 e2)
  have e6 := Rat.mul_le_mul_of_nonneg_right e4 e5
  rw [Rat.div_def, Rat.div_def]
  exact Rat.add_le_add_left.2 e6
theorem round_int (z way : Int) : roundQ ((z : Int) : Rat) way = z := by
  unfold roundQ
  split
  · exact Rat.floor_intCast z
  · split
    · exact Rat.ceil_intCast z
    · unfold nearQ
      rw [Rat.num_intCast, Rat.den_intCast]
      split <;> omega
theorem floor_ceil {q r : Rat} (h : q ≤ r) : roundQ q 1 ≤ roundQ r 3 := by
  show q.floor ≤ r.ceil
  have h1 := Rat.floor_le q
  have h2 : r ≤ ((r.ceil : Int) : Rat) := Rat.le_ceil
  exact Rat.intCast_le_intCast.1 (Rat.le_trans h1 (Rat.le_trans h h2))

theorem posI_ok {z : Int} (h1 : -10000000000000 ≤ z) (h2 : z ≤ 10000000000000) : posI z = (z, 0) := by unfold posI; rw [if_pos (by omega)]
theorem okPos_of {z : Int} (h1 : -10000000000000 ≤ z) (h2 : z ≤ 10000000000000) : okPos z = true := by unfold okPos; simp; omega
/-- at a pair the way goes through it -/
theorem across_at {l : List Pr} (hc : chkP l = 0) {i : Nat} (hi : i < l.length) {way : Int} (hw : okWay way = true) : acrossS l (prOf l i).1 way = ((prOf l i).2, 0) := by
  have ho := okPs_of hc
  obtain ⟨⟨a1, a2⟩, b1, b2⟩ := ho.rng i hi
  have hpos := okPos_of a1 a2
  have h2 := ho.two
  by_cases h : i + 1 < l.length
  · have hs : AtSeg l (prOf l i).1 i := ⟨h, fun _ => Int.le_refl _, fun h9 => Int.le_of_lt (ho.inc i h).1⟩
    rw [across_seg hc hpos hw hs (x1 := (prOf l i).1) (y1 := (prOf l i).2) rfl (x2 := (prOf l (i + 1)).1) (y2 := (prOf l (i + 1)).2) rfl]
    rw [show lineQ ((prOf l i).1, (prOf l i).2) ((prOf l (i + 1)).1, (prOf l (i + 1)).2) (prOf l i).1 = (((prOf l i).2 : Int) : Rat) from lineQ_at (p := prOf l i) (q := prOf l (i + 1)), round_int]
    exact posI_ok b1 b2
  · obtain ⟨j, rfl⟩ : ∃ j, i = j + 1 := ⟨i - 1, by omega⟩
    have hi := ho.inc j (by omega)
    have hs : AtSeg l (prOf l (j + 1)).1 j := ⟨by omega, fun _ => Int.le_of_lt hi.1, fun h9 => absurd h9 (by omega)⟩
    rw [across_seg hc hpos hw hs (x1 := (prOf l j).1) (y1 := (prOf l j).2) rfl (x2 := (prOf l (j + 1)).1) (y2 := (prOf l (j + 1)).2) rfl]
    rw [show lineQ ((prOf l j).1, (prOf l j).2) ((prOf l (j + 1)).1, (prOf l (j + 1)).2) (prOf l (j + 1)).1 = (((prOf l (j + 1)).2 : Int) : Rat) from lineQ_end (p := prOf l j) (q := prOf l (j + 1)) hi.1, round_int]
    exact posI_ok b1 b2
theorem rowG_all {o : List Pr → Nat → Bool} {l : List Pr} : ∀ {d k : Nat}, (∀ j, k ≤ j → j < k + d → okPr (prOf l j) = true ∧ o l j = false) → rowG o l d k = 0
  | 0, _, _ => rfl
  | d + 1, k, h => by
    obtain ⟨a, b⟩ := h k (Nat.le_refl _) (by omega)
    unfold rowG
    rw [if_neg (by rw [a]; simp), if_neg (by rw [b]; simp)]
    exact rowG_all fun j h1 h2 => h j (by omega) (by omega)
theorem chk_swap {l : List Pr} (hc : chkP l = 0) : chkP (swapP l) = 0 := by
  have ho := okPs_of hc
  unfold chkP
  rw [swap_len, if_neg (by have := ho.two; omega), if_neg (by have := ho.few; omega)]
  refine rowG_all fun j _ hj => ⟨?_, ?_⟩
  · obtain ⟨⟨a1, a2⟩, b1, b2⟩ := ho.rng j (by omega)
    rw [swap_at (by omega)]
    unfold okPr
    rw [okPos_of b1 b2, okPos_of a1 a2]; rfl
  · cases j with
    | zero => rfl
    | succ j =>
      have hi := ho.inc j (by omega)
      rw [ordP_succ (swap_at (by omega)) (swap_at (by omega))]
      simp
      omega
theorem across_turn {l : List Pr} (hc : chkP l = 0) {i : Nat} (hi : i < l.length) {way : Int} (hw : okWay way = true) : acrossS (swapP l) (prOf l i).2 way = ((prOf l i).1, 0) := by
  have h := across_at (chk_swap hc) (i := i) (by rw [swap_len]; exact hi) hw
  rw [swap_at hi] at h
  exact h
theorem seg_mono {l : List Pr} {a b : Int} {j k : Nat} (ho : OkPs l) (hj : AtSeg l a j) (hk : AtSeg l b k) (h : a ≤ b) : lineQ (prOf l j) (prOf l (j + 1)) a ≤ lineQ (prOf l k) (prOf l (k + 1)) b := by
  have hij := ho.inc j hj.1
  have hik := ho.inc k hk.1
  rcases Nat.lt_trichotomy j k with h1 | h1 | h1
  · have g1 := hj.2.2 (by have := hk.1; omega)
    have g2 := hk.2.1 (by omega)
    have e1 := lineQ_mono (p := prOf l j) (q := prOf l (j + 1)) hij.1 hij.2 g1
    rw [lineQ_end hij.1] at e1
    have e2 := lineQ_mono (p := prOf l k) (q := prOf l (k + 1)) hik.1 hik.2 g2
    rw [lineQ_at] at e2
    obtain ⟨d, rfl⟩ : ∃ d, k = j + 1 + d := ⟨k - (j + 1), by omega⟩
    have g3 := (ho.le d (j + 1) (by have := hk.1; omega)).2
    exact Rat.le_trans e1 (Rat.le_trans (Rat.intCast_le_intCast.2 (by omega)) e2)
  · subst h1
    exact lineQ_mono hij.1 hij.2 h
  · have g1 := hk.2.2 (by have := hj.1; omega)
    have g2 := hj.2.1 (by omega)
    obtain ⟨d, rfl⟩ : ∃ d, j = k + 1 + d := ⟨j - (k + 1), by omega⟩
    have g3 := (ho.le d (k + 1) (by have := hj.1; omega)).1
    have e : a = b := by omega
    subst e
    rw [seg_one ho hj hk]
    exact Rat.le_refl
theorem seg_some {l : List Pr} (ho : OkPs l) (a : Int) : ∃ k, AtSeg l a k := by
  have H : ∀ d k : Nat, k + 2 + d = l.length → (0 < k → (prOf l k).1 ≤ a) → ∃ k, AtSeg l a k := by
    intro d
    induction d with
    | zero => exact fun k h1 h2 => ⟨k, by omega, h2, fun h => by omega⟩
    | succ d ih =>
      intro k h1 h2
      by_cases h : (prOf l (k + 1)).1 ≤ a
      · exact ih (k + 1) (by omega) (fun _ => h)
      · exact ⟨k, by omega, h2, fun _ => by omega⟩
  have h2 := ho.two
  exact H (l.length - 2) 0 (by omega) (fun h => absurd h (by omega))
/-- the way never falls -/
theorem across_mono {l : List Pr} {a b : Int} (h : a ≤ b) {n m : Int} (h1 : acrossS l a 1 = (n, 0)) (h2 : acrossS l b 3 = (m, 0)) : n ≤ m := by
  by_cases hc : chkP l = 0
  · have ho := okPs_of hc
    obtain ⟨j, hj⟩ := seg_some ho a
    obtain ⟨k, hk⟩ := seg_some ho b
    cases ha : okPos a with
    | false => unfold acrossS at h1; rw [if_neg (by rw [hc]; simp), if_pos ha] at h1; injection h1 with _ h1; cases h1
    | true =>
    cases hb : okPos b with
    | false => unfold acrossS at h2; rw [if_neg (by rw [hc]; simp), if_pos hb] at h2; injection h2 with _ h2; cases h2
    | true =>
    rw [across_seg hc ha (by decide) hj (x1 := (prOf l j).1) (y1 := (prOf l j).2) rfl (x2 := (prOf l (j + 1)).1) (y2 := (prOf l (j + 1)).2) rfl] at h1
    rw [across_seg hc hb (by decide) hk (x1 := (prOf l k).1) (y1 := (prOf l k).2) rfl (x2 := (prOf l (k + 1)).1) (y2 := (prOf l (k + 1)).2) rfl] at h2
    have hm := floor_ceil (seg_mono ho hj hk h)
    unfold posI at h1 h2
    split at h1
    · split at h2
      · injection h1 with h1 _
        injection h2 with h2 _
        rw [← h1, ← h2]
        exact hm
      · injection h2 with _ h2; cases h2
    · injection h1 with _ h1; cases h1
  · unfold acrossS at h1
    rw [if_pos hc] at h1
    injection h1 with _ h1
    exact absurd h1 hc
set_option maxRecDepth 100000 in
set_option maxHeartbeats 8000000 in
theorem lawAc_walk (A : Option Addr) (n c : Nat) (l : List Pr) (a b : Int) (w : World) (hh : Hid (PrsAt w w.heap.size A n l)) :
    Calls Tryd.prog 3 #[.slice A n c, .int .i64 a, .int .i64 b] w fun e w' => e = .returned (.bool true) ∧ Below w.heap.size w w' := by
  have hl := Lib.hid hh.out.1
  obtain ⟨k, hk⟩ : ∃ k, chkP l = k := ⟨_, rfl⟩
  have HK := Lib.hid hk
  clear hk
  by_cases h0 : k = 0
  rotate_left
  · have hkb : (k != 0) = true := by simpa using h0
    clear h0
    by_cases hn : n < 2
    · have d1 : decide ((n : Int) < 2) = true := by simp; omega
      clear hn
      go_enter Tryd.func3, Tryd.ntmps3
      go_wp2_with (go_at_call 6; refine (CHECKPAIRS_any A n c l _ w.heap.size (Nat.le_refl _) hh).mono ?_; rintro e w1 ⟨rfl, hb1⟩; rw [HK.out])
      go_ret
      exact ⟨rfl, hb1⟩
    · have d1 : decide ((n : Int) < 2) = false := by simp; omega
      clear hn
      go_enter Tryd.func3, Tryd.ntmps3
      go_wp2_with (first
        | (go_at_call 6; refine (CHECKPAIRS_any A n c l _ w.heap.size (Nat.le_refl _) hh).mono ?_; rintro e w1 ⟨rfl, hb1⟩; rw [HK.out])
        | (go_at_call 7; refine (AWAKE_any _).mono ?_; rintro e w9 ⟨rfl, hb9⟩))
      go_ret
      exact ⟨rfl, hb1.trans (hb9.mono hb1.size)⟩
  subst h0
  have HOK := Lib.hid (okPs_of HK.out)
  have hn2 : 2 ≤ n := by rw [← hl.out]; exact HOK.out.two
  have hn5 : n ≤ 500 := by rw [← hl.out]; exact HOK.out.few
  have HT : Hid (turnS l = (swapP l, 0)) := by show _ = _; unfold turnS; rw [if_pos HK.out]
  go_enter Tryd.func3, Tryd.ntmps3
  go_wp2_with (go_at_call 6; refine (CHECKPAIRS_any A n c l _ w.heap.size (Nat.le_refl _) hh).mono ?_; rintro e w1 ⟨rfl, hb1⟩; rw [HK.out]; have HB1 := Lib.hid hb1; clear hb1)
  refine (TURNED_any A n c l _ w.heap.size HB1.out.size (Lib.hid (hh.out.below HB1.out (Nat.le_refl _)))).mono ?_
  rintro e w3 ⟨v3, rfl, ho3, hb3⟩
  rw [HT.out] at ho3 ⊢
  have HB3 := Lib.hid (HB1.out.trans (hb3.mono HB1.out.size))
  dsimp only at ho3 ⊢
  obtain ⟨A3, c3, rfl, hc3, hm3⟩ := ho3.len
  have P3 := Lib.hid ho3.at_
  have e3 : (swapP l).length = n := by rw [swap_len]; exact hl.out
  rw [e3] at P3 hc3 ⊢
  clear hb3 ho3 e3
  go_wp2_with fail
  go_loopw [9] (fun i wr => ∃ k : Nat, k ≤ n ∧ i = .int .i64 k ∧ Hid (Below w.heap.size w wr) ∧ Hid (Below w3.heap.size w3 wr)) (fun i _ => n - (intOf i).toNat)
  case atStart => exact ⟨0, Nat.zero_le _, rfl, HB3, Below.refl _ _⟩
  case round =>
    obtain ⟨k, hk, rfl, hb, hb9⟩ := hrel
    by_cases hlt : k < n
    · have hkl : k < l.length := by rw [hl.out]; exact hlt
      have HA := Lib.hid (across_at HK.out hkl (way := 2) (by decide))
      have HB := Lib.hid (across_turn HK.out hkl (way := 1) (by decide))
      obtain ⟨bA, oA, rfl, hbA, k1, k2⟩ := (hh.out.below hb.out (Nat.le_refl _)).2 k hlt
      obtain ⟨p, hp⟩ : ∃ p, prOf l k = p := ⟨_, rfl⟩
      obtain ⟨x, y⟩ := p
      rw [hp] at k1 k2 HA HB
      dsimp only at k1 k2 HA HB
      have hk0 : (0 : Int) ≤ (k : Int) := by omega
      have hkn : (k : Int) < (n : Int) := by omega
      have hbw : bA < w.heap.size := hbA
      clear hp
      go_wp2_with fail
      refine (ACROSS_any (some ⟨bA, oA, none⟩) n c l x 2 _ w.heap.size hb.out.size (Lib.hid (hh.out.below hb.out (Nat.le_refl _)))).mono ?_
      rintro e w5 ⟨rfl, hb5⟩
      rw [HA.out]
      have HC5 := Lib.hid hb5
      have HB5 := Lib.hid (hb.out.trans (hb5.mono hb.out.size))
      have HD5 := Lib.hid (hb9.out.trans (hb5.mono hb9.out.size))
      have hsz := hb.out.size
      have m1 := (hb5.cell (p := ⟨bA, oA + k * 2, none⟩) (by dsimp only; omega)).trans k1
      have m2 := (hb5.cell (p := ⟨bA, oA + k * 2 + 1, none⟩) (by dsimp only; omega)).trans k2
      have hb5s : bA < w5.heap.size := by have := hb5.size; omega
      dsimp only
      clear hb5 k1 k2
      go_wp2_with fail
      refine (ACROSS_any A3 n c3 (swapP l) y 1 _ w3.heap.size HD5.out.size (Lib.hid (P3.out.below HD5.out (Nat.le_refl _)))).mono ?_
      rintro e w6 ⟨rfl, hb6⟩
      rw [HB.out]
      have HB6 := Lib.hid (HB5.out.trans (hb6.mono HB5.out.size))
      have HD6 := Lib.hid (HD5.out.trans (hb6.mono HD5.out.size))
      have q1 := (hb6.cell (p := ⟨bA, oA + k * 2, none⟩) hb5s).trans m1
      have q2 := (hb6.cell (p := ⟨bA, oA + k * 2 + 1, none⟩) hb5s).trans m2
      have hb6s : bA < w6.heap.size := by have := hb6.size; omega
      dsimp only
      clear hb6 m1 m2 hb5s
      go_wp2_with fail
      go_roundw
      case rel => exact ⟨k + 1, by omega, by go_num, HB6, HD6⟩
      case measure => simp [intOf]; omega
    · obtain rfl : k = n := by omega
      by_cases hab : b < a
      · have hgt : a > b := hab
        have HLE : Hid (b ≤ a) := by show _ ≤ _; omega
        go_wp2_with fail
        clear hgt hab hlt hk
        refine (ACROSS_any A k c l b 1 _ w.heap.size hb.out.size (Lib.hid (hh.out.below hb.out (Nat.le_refl _)))).mono ?_
        rintro e w7 ⟨rfl, hb7⟩
        have HB7 := Lib.hid (hb.out.trans (hb7.mono hb.out.size))
        obtain ⟨⟨x, f⟩, hx⟩ : ∃ p, acrossS l b 1 = p := ⟨_, rfl⟩
        rw [hx]
        have HX := Lib.hid hx
        dsimp only
        clear hb7 hx
        go_wp2_with fail
        refine (ACROSS_any A k c l a 3 _ w.heap.size HB7.out.size (Lib.hid (hh.out.below HB7.out (Nat.le_refl _)))).mono ?_
        rintro e w8 ⟨rfl, hb8⟩
        have HB8 := Lib.hid (HB7.out.trans (hb8.mono HB7.out.size))
        obtain ⟨⟨y, g⟩, hy⟩ : ∃ p, acrossS l a 3 = p := ⟨_, rfl⟩
        rw [hy]
        have HY := Lib.hid hy
        dsimp only
        clear hb8 hy
        by_cases hf : f = 0
        · subst hf
          by_cases hg : g = 0
          · subst hg
            have hxy : x ≤ y := across_mono HLE.out HX.out HY.out
            clear HX HY
            go_wp2_with (go_at_call 7; refine (AWAKE_any _).mono ?_; rintro e w9 ⟨rfl, hb9⟩; have HB9 := Lib.hid (HB8.out.trans (hb9.mono HB8.out.size)); clear hb9)
            go_ret
            exact ⟨rfl, HB9.out⟩
          · have hgb : (g != 0) = true := by simpa using hg
            clear hg
            go_wp2_with (go_at_call 7; refine (AWAKE_any _).mono ?_; rintro e w9 ⟨rfl, hb9⟩; have HB9 := Lib.hid (HB8.out.trans (hb9.mono HB8.out.size)); clear hb9)
            go_ret
            exact ⟨rfl, HB9.out⟩
        · have hfb : (f != 0) = true := by simpa using hf
          clear hf
          go_wp2_with (go_at_call 7; refine (AWAKE_any _).mono ?_; rintro e w9 ⟨rfl, hb9⟩; have HB9 := Lib.hid (HB8.out.trans (hb9.mono HB8.out.size)); clear hb9)
          go_ret
          exact ⟨rfl, HB9.out⟩
      · have hgt : ¬ a > b := hab
        have HLE : Hid (a ≤ b) := by show _ ≤ _; omega
        go_wp2_with fail
        clear hgt hab hlt hk
        refine (ACROSS_any A k c l a 1 _ w.heap.size hb.out.size (Lib.hid (hh.out.below hb.out (Nat.le_refl _)))).mono ?_
        rintro e w7 ⟨rfl, hb7⟩
        have HB7 := Lib.hid (hb.out.trans (hb7.mono hb.out.size))
        obtain ⟨⟨x, f⟩, hx⟩ : ∃ p, acrossS l a 1 = p := ⟨_, rfl⟩
        rw [hx]
        have HX := Lib.hid hx
        dsimp only
        clear hb7 hx
        go_wp2_with fail
        refine (ACROSS_any A k c l b 3 _ w.heap.size HB7.out.size (Lib.hid (hh.out.below HB7.out (Nat.le_refl _)))).mono ?_
        rintro e w8 ⟨rfl, hb8⟩
        have HB8 := Lib.hid (HB7.out.trans (hb8.mono HB7.out.size))
        obtain ⟨⟨y, g⟩, hy⟩ : ∃ p, acrossS l b 3 = p := ⟨_, rfl⟩
        rw [hy]
        have HY := Lib.hid hy
        dsimp only
        clear hb8 hy
        by_cases hf : f = 0
        · subst hf
          by_cases hg : g = 0
          · subst hg
            have hxy : x ≤ y := across_mono HLE.out HX.out HY.out
            clear HX HY
            go_wp2_with (go_at_call 7; refine (AWAKE_any _).mono ?_; rintro e w9 ⟨rfl, hb9⟩; have HB9 := Lib.hid (HB8.out.trans (hb9.mono HB8.out.size)); clear hb9)
            go_ret
            exact ⟨rfl, HB9.out⟩
          · have hgb : (g != 0) = true := by simpa using hg
            clear hg
            go_wp2_with (go_at_call 7; refine (AWAKE_any _).mono ?_; rintro e w9 ⟨rfl, hb9⟩; have HB9 := Lib.hid (HB8.out.trans (hb9.mono HB8.out.size)); clear hb9)
            go_ret
            exact ⟨rfl, HB9.out⟩
        · have hfb : (f != 0) = true := by simpa using hf
          clear hf
          go_wp2_with (go_at_call 7; refine (AWAKE_any _).mono ?_; rintro e w9 ⟨rfl, hb9⟩; have HB9 := Lib.hid (HB8.out.trans (hb9.mono HB8.out.size)); clear hb9)
          go_ret
          exact ⟨rfl, HB9.out⟩
end Go.Proofs.YthjmhdnamhifjaaDoor
