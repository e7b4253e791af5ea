/- Across, of both sides. -/
import Derived.Test.YthjmhdnamhifjaaDoorTrn
import Derived.Test.YthjmhdnamhifjaaDoorRp
import Derived.Test.YthjmhdnamhifjaaDoorRegion3
import Derived.Test.YthjmhdnamhifjaaDoorBox
import Derived.Deep.CutRange
import Derived.Deep.CutBlock
set_option linter.unusedSimpArgs false
set_option linter.unusedVariables false
namespace Go.Proofs.YthjmhdnamhifjaaDoor
open Go.RowKit Go.Dw Go.Joins
/-- the line through two pairs -/
def lineQ (p q : Pr) (a : Int) : Rat := ((p.2 : Int) : Rat) + ((a - p.1 : Int) : Rat) * ((q.2 - p.2 : Int) : Rat) / ((q.1 - p.1 : Int) : Rat)
/-- a pair before a sample, or the first one, and not the last one -/
def AtSeg (l : List Pr) (a : Int) (k : Nat) : Prop := k + 1 < l.length ∧ (0 < k → (prOf l k).1 ≤ a) ∧ (k + 2 < l.length → a ≤ (prOf l (k + 1)).1)
structure OkPs (l : List Pr) : Prop where
  two : 2 ≤ l.length
  few : l.length ≤ 500
  rng : ∀ k, k < l.length → (-10000000000000 ≤ (prOf l k).1 ∧ (prOf l k).1 ≤ 10000000000000) ∧ (-10000000000000 ≤ (prOf l k).2 ∧ (prOf l k).2 ≤ 10000000000000)
  inc : ∀ k, k + 1 < l.length → (prOf l k).1 < (prOf l (k + 1)).1 ∧ (prOf l k).2 < (prOf l (k + 1)).2
theorem okPs_of {l : List Pr} (h : chkP l = 0) : OkPs l := by
  obtain ⟨h1, h2⟩ := chkP_ok h
  unfold chkP at h
  rw [if_neg (by omega), if_neg (by omega)] at h
  have hz := rowG_zero h
  refine ⟨h1, h2, fun k hk => ?_, fun k hk => ?_⟩
  · obtain ⟨a, _⟩ := hz k (by omega) (by omega)
    unfold okPr at a
    rw [Bool.and_eq_true] at a
    exact ⟨okPos_le a.1, okPos_le a.2⟩
  · obtain ⟨_, b⟩ := hz (k + 1) (by omega) (by omega)
    rw [ordP_succ (x := (prOf l (k + 1)).1) (y := (prOf l (k + 1)).2) rfl (z1 := (prOf l k).1) (z2 := (prOf l k).2) rfl] at b
    simp at b
    omega
theorem OkPs.le {l : List Pr} (h : OkPs l) : ∀ (d k : Nat), k + d < l.length → (prOf l k).1 + d ≤ (prOf l (k + d)).1 ∧ (prOf l k).2 + d ≤ (prOf l (k + d)).2
  | 0, k, _ => ⟨by simp, by simp⟩
  | d + 1, k, hk => by
    have h1 := h.le d k (by omega)
    have h2 := h.inc (k + d) (by omega)
    rw [show k + (d + 1) = k + d + 1 by omega]
    omega
theorem lineQ_at {p q : Pr} : lineQ p q p.1 = ((p.2 : Int) : Rat) := by
  unfold lineQ
  rw [Int.sub_self]
  simp [Rat.div_def, Rat.add_zero]
theorem lineQ_end {p q : Pr} (h : p.1 < q.1) : lineQ p q q.1 = ((q.2 : Int) : Rat) := by
  unfold lineQ
  have h1 : ((q.1 - p.1 : Int) : Rat) ≠ 0 := fun h9 => by
    have h8 : ((q.1 - p.1 : Int) : Rat) = ((0 : Int) : Rat) := h9
    have := Rat.intCast_inj.1 h8
    omega
  rw [Rat.mul_comm, Rat.mul_div_cancel h1, ← Rat.intCast_add]
  congr 1
  omega
theorem seg_one {l : List Pr} {a : Int} {j k : Nat} (ho : OkPs l) (hj : AtSeg l a j) (hk : AtSeg l a k) : lineQ (prOf l j) (prOf l (j + 1)) a = lineQ (prOf l k) (prOf l (k + 1)) a := by
  have H : ∀ j k : Nat, AtSeg l a j → AtSeg l a k → j < k → lineQ (prOf l j) (prOf l (j + 1)) a = lineQ (prOf l k) (prOf l (k + 1)) a := by
    intro j k hj hk h
    have h1 := hj.2.2 (by have := hk.1; omega)
    have h2 := hk.2.1 (by omega)
    obtain ⟨d, rfl⟩ : ∃ d, k = j + 1 + d := ⟨k - (j + 1), by omega⟩
    have h3 := (ho.le d (j + 1) (by have := hk.1; omega)).1
    obtain rfl : d = 0 := by omega
    have e : a = (prOf l (j + 1)).1 := by rw [Nat.add_zero] at h2; omega
    rw [Nat.add_zero, e, lineQ_at, lineQ_end (ho.inc j hj.1).1]
  rcases Nat.lt_trichotomy j k with h | h | h
  · exact H j k hj hk h
  · rw [h]
  · exact (H k j hk hj h).symm
noncomputable def segK (l : List Pr) (a : Int) : Nat := open Classical in if h : ∃ k, AtSeg l a k then h.choose else 0
theorem segK_eq {l : List Pr} {a : Int} {k : Nat} (ho : OkPs l) (hk : AtSeg l a k) : lineQ (prOf l (segK l a)) (prOf l (segK l a + 1)) a = lineQ (prOf l k) (prOf l (k + 1)) a := by
  have h : ∃ k, AtSeg l a k := ⟨k, hk⟩
  unfold segK
  rw [dif_pos h]
  exact seg_one ho h.choose_spec hk
/-- Across -/
noncomputable def acrossS (l : List Pr) (a way : Int) : Int × Int := if chkP l ≠ 0 then (0, chkP l) else if okPos a = false then (0, 1) else if okWay way = false then (0, 4) else posI (roundQ (lineQ (prOf l (segK l a)) (prOf l (segK l a + 1)) a) way)
theorem across_seg {l : List Pr} {a way : Int} {k : Nat} {x1 y1 x2 y2 : Int} (hc : chkP l = 0) (ha : okPos a = true) (hw : okWay way = true) (hk : AtSeg l a k) (h1 : prOf l k = (x1, y1)) (h2 : prOf l (k + 1) = (x2, y2)) :
    acrossS l a way = posI (roundQ (lineQ (x1, y1) (x2, y2) a) way) := by
  unfold acrossS
  rw [if_neg (by rw [hc]; simp), if_neg (by rw [ha]; simp), if_neg (by rw [hw]; simp), segK_eq (okPs_of hc) hk, h1, h2]
theorem line_over {a x1 y1 x2 y2 : Int} (h : x1 < x2) : ((y1 : Int) : Rat) + mkRat ((a - x1) * (y2 - y1)) (x2 - x1).natAbs = lineQ (x1, y1) (x2, y2) a := by
  rw [← conv_rat _ _ _ (by omega)]; rfl
set_option maxRecDepth 100000 in
set_option maxHeartbeats 16000000 in
theorem ACROSS_any (A : Option Addr) (n c : Nat) (l : List Pr) (a way : Int) (w : World) (B : Nat) (hB : B ≤ w.heap.size) (hh : Hid (PrsAt w B A n l)) :
    Calls Tryd.prog 9 #[.slice A n c, .int .i64 a, .int .i64 way] w fun e w' => e = .returned (.tuple #[.int .i64 (acrossS l a way).1, .int .i64 (acrossS l a way).2]) ∧ Below w.heap.size w w' := by
  have hl := Lib.hid hh.out.1
  obtain ⟨x, hx⟩ : ∃ x, chkP l = x := ⟨_, rfl⟩
  have HX := Lib.hid hx
  obtain ⟨bp, HP⟩ : ∃ b, Hid ((decide (-10000000000000 ≤ a) && decide (a ≤ 10000000000000)) = b) := ⟨_, rfl⟩
  obtain ⟨bw, HY⟩ : ∃ b, Hid ((decide (1 ≤ way) && decide (way ≤ 3)) = b) := ⟨_, rfl⟩
  have HPa : Hid (okPos a = bp) := HP.out
  have HWa : Hid (okWay way = bw) := HY.out
  clear hx
  by_cases h0 : x = 0
  rotate_left
  · have hq : ((x : Int) != 0) = true := by simpa using h0
    have HV : Hid (acrossS l a way = (0, x)) := by show _ = _; unfold acrossS; rw [HX.out, if_pos h0]
    go_enter Tryd.func9, Tryd.ntmps9
    go_wp2_with (first
      | (go_at_call 6; refine (CHECKPAIRS_any A n c l _ B hB hh).mono ?_; rintro e w1 ⟨rfl, hb1⟩; rw [HX.out])
      | (go_at_call 23; refine (ISPOS_any a _).mono ?_; rintro e w2 ⟨rfl, rfl⟩; rw [HP.out])
      | (go_at_call 25; refine (ISWAY_any way _).mono ?_; rintro e w2 ⟨rfl, rfl⟩; rw [HY.out]))
    go_ret2
    exact ⟨by rw [HV.out]; rfl, hb1⟩
  subst h0
  cases bp with
  | false =>
    have HV : Hid (acrossS l a way = (0, 1)) := by show _ = _; unfold acrossS; rw [HX.out, if_neg (by simp), if_pos HPa.out]
    go_enter Tryd.func9, Tryd.ntmps9
    go_wp2_with (first
      | (go_at_call 6; refine (CHECKPAIRS_any A n c l _ B hB hh).mono ?_; rintro e w1 ⟨rfl, hb1⟩; rw [HX.out])
      | (go_at_call 23; refine (ISPOS_any a _).mono ?_; rintro e w2 ⟨rfl, rfl⟩; rw [HP.out])
      | (go_at_call 25; refine (ISWAY_any way _).mono ?_; rintro e w2 ⟨rfl, rfl⟩; rw [HY.out]))
    go_ret2
    exact ⟨by rw [HV.out]; rfl, hb1⟩
  | true =>
  cases bw with
  | false =>
    have HV : Hid (acrossS l a way = (0, 4)) := by show _ = _; unfold acrossS; rw [HX.out, if_neg (by simp), if_neg (by rw [HPa.out]; simp), if_pos HWa.out]
    go_enter Tryd.func9, Tryd.ntmps9
    go_wp2_with (first
      | (go_at_call 6; refine (CHECKPAIRS_any A n c l _ B hB hh).mono ?_; rintro e w1 ⟨rfl, hb1⟩; rw [HX.out])
      | (go_at_call 23; refine (ISPOS_any a _).mono ?_; rintro e w2 ⟨rfl, rfl⟩; rw [HP.out])
      | (go_at_call 25; refine (ISWAY_any way _).mono ?_; rintro e w2 ⟨rfl, rfl⟩; rw [HY.out]))
    go_ret2
    exact ⟨by rw [HV.out]; rfl, hb1⟩
  | true =>
  have HOK := Lib.hid (okPs_of HX.out)
  have hn2 : 2 ≤ n := by rw [← hl.out]; exact HOK.out.two
  have hn5 : n ≤ 500 := by rw [← hl.out]; exact HOK.out.few
  obtain ⟨hp1, hp2⟩ := okPos_le HPa.out
  go_enter Tryd.func9, Tryd.ntmps9
  go_upto_block 1 with (first
    | (go_at_call 6; refine (CHECKPAIRS_any A n c l _ B hB hh).mono ?_; rintro e w1 ⟨rfl, hb1⟩; rw [HX.out])
    | (go_at_call 23; refine (ISPOS_any a _).mono ?_; rintro e w2 ⟨rfl, rfl⟩; rw [HP.out])
    | (go_at_call 25; refine (ISWAY_any way _).mono ?_; rintro e w2 ⟨rfl, rfl⟩; rw [HY.out]))
  have HB1 := Lib.hid hb1
  have hs1 := hb1.size
  clear hb1
  go_cut [9] (fun v wx => ∃ k : Nat, v = .int .i64 k ∧ wx = w1 ∧ Hid (AtSeg l a k))
  case first =>
    go_wp2_with fail
    go_loopw [9] (fun v wr => ∃ k : Nat, k + 1 < n ∧ v = .int .i64 k ∧ wr = w1 ∧ Hid (0 < k → (prOf l k).1 ≤ a)) (fun v _ => n - (intOf v).toNat)
    case atStart => exact ⟨0, by omega, rfl, rfl, fun h => absurd h (by omega)⟩
    case round =>
      obtain ⟨k, hk, rfl, rfl, HLO⟩ := hrel
      by_cases hlt : k + 2 < n
      · obtain ⟨bC, oC, rfl, hbC, s1, _⟩ := (hh.out.below (HB1.out.mono hB) (Nat.le_refl _)).2 (k + 1) (by omega)
        have hk1 : (0 : Int) ≤ (k : Int) + 1 := by omega
        have hkn1 : (k : Int) + 1 < (n : Int) := by omega
        have hkw : IntKind.i64.wrap ((k : Int) + 1) = (k : Int) + 1 := IntWalk.i64_in _ (by omega)
        have hkt : ((k : Int) + 1).toNat = k + 1 := by omega
        have hkl : (k : Int) < (n : Int) - 2 := by omega
        have hkl2 : (k : Int) + 2 < (n : Int) := by omega
        by_cases hle : (prOf l (k + 1)).1 ≤ a
        · have HN : Hid (0 < k + 1 → (prOf l (k + 1)).1 ≤ a) := fun _ => by omega
          have hk3 : k + 1 + 1 < n := by omega
          obtain ⟨z, hz⟩ : ∃ z, (prOf l (k + 1)).1 = z := ⟨_, rfl⟩
          rw [hz] at s1 hle
          clear hz
          go_wp2_with fail
          go_roundw
          case rel => exact ⟨k + 1, hk3, by go_num, trivial, HN⟩
          case measure => simp [intOf]; omega
        · have HSEG : Hid (AtSeg l a k) := ⟨by rw [hl.out]; exact hk, HLO.out, fun h => by omega⟩
          obtain ⟨z, hz⟩ : ∃ z, (prOf l (k + 1)).1 = z := ⟨_, rfl⟩
          rw [hz] at s1 hle
          clear hz
          go_wp2_with fail
          go_meet
          exact ⟨k, rfl, rfl, HSEG⟩
      · have HSEG : Hid (AtSeg l a k) := ⟨by rw [hl.out]; exact hk, HLO.out, fun h => absurd (by rw [hl.out] at h; exact h) hlt⟩
        have hkl : ¬ (k : Int) < (n : Int) - 2 := by omega
        have hkl2 : ¬ (k : Int) + 2 < (n : Int) := by omega
        go_wp2_with fail
        go_meet
        exact ⟨k, rfl, rfl, HSEG⟩
  case rest =>
      obtain ⟨k, rfl, rfl, HSEG⟩ := hcut
      have hk : k + 1 < n := by have := HSEG.out.1; rw [hl.out] at this; exact this
      obtain ⟨w1, rfl⟩ : ∃ x : World, x = wc := ⟨_, rfl⟩
      obtain ⟨bA, oA, rfl, hbA, r1, r2⟩ := (hh.out.below (HB1.out.mono hB) (Nat.le_refl _)).2 k (by omega)
      obtain ⟨bC, oC, e2, hbC, s1, s2⟩ := (hh.out.below (HB1.out.mono hB) (Nat.le_refl _)).2 (k + 1) (by omega)
      injection e2 with e2
      injection e2 with e3 e4 _
      subst e3 e4
      obtain ⟨hrg1, hrg2⟩ := HOK.out.rng k (by rw [hl.out]; omega)
      obtain ⟨hrg3, hrg4⟩ := HOK.out.rng (k + 1) (by rw [hl.out]; omega)
      obtain ⟨hi1, hi2⟩ := HOK.out.inc k (by rw [hl.out]; omega)
      obtain ⟨p, hp⟩ : ∃ p, prOf l k = p := ⟨_, rfl⟩
      obtain ⟨q, hq⟩ : ∃ q, prOf l (k + 1) = q := ⟨_, rfl⟩
      obtain ⟨x1, y1⟩ := p
      obtain ⟨x2, y2⟩ := q
      have HV := Lib.hid (across_seg HX.out HPa.out HWa.out HSEG.out hp hq)
      rw [hp] at r1 r2 hrg1 hrg2 hi1 hi2
      rw [hq] at s1 s2 hrg3 hrg4 hi1 hi2
      dsimp only at r1 r2 s1 s2 hrg1 hrg2 hrg3 hrg4 hi1 hi2
      have hbAw : bA < w1.heap.size := by omega
      have hbw : bA < w.heap.size := by omega
      have hk0 : (0 : Int) ≤ (k : Int) := by omega
      have hkn : (k : Int) < (n : Int) := by omega
      have hk1 : (0 : Int) ≤ (k : Int) + 1 := by omega
      have hkn1 : (k : Int) + 1 < (n : Int) := by omega
      have hkw : IntKind.i64.wrap ((k : Int) + 1) = (k : Int) + 1 := IntWalk.i64_in _ (by omega)
      have hkt : ((k : Int) + 1).toNat = k + 1 := by omega
      clear hp hq
      go_upto_region 11 with (fail)
      go_cut [10, 11] (fun v10 v11 wx => ∃ g1 g2 : Nat, v10 = .pointer (some ⟨g1, 0, none⟩) ∧ v11 = .pointer (some ⟨g2, 0, none⟩) ∧ Hid (wx.heap[g1]? = some (.cells #[.int .i64 x1, .int .i64 y1] 31 (0, 0))) ∧ Hid (wx.heap[g2]? = some (.cells #[.int .i64 x2, .int .i64 y2] 31 (0, 0))) ∧ Hid (Below w.heap.size w1 wx))
      case first =>
        go_region_held3 (fun w' => Below w.heap.size w1 w' ∧ w'.cell? ⟨bA, oA + k * 2, none⟩ = some (.int .i64 x1) ∧ w'.cell? ⟨bA, oA + k * 2 + 1, none⟩ = some (.int .i64 y1) ∧ w'.cell? ⟨bA, oA + (k + 1) * 2, none⟩ = some (.int .i64 x2) ∧ w'.cell? ⟨bA, oA + (k + 1) * 2 + 1, none⟩ = some (.int .i64 y2))
          ((refine (fun h => ⟨h, (h.cell (p := ⟨bA, oA + k * 2, none⟩) hbw).trans r1, (h.cell (p := ⟨bA, oA + k * 2 + 1, none⟩) hbw).trans r2, (h.cell (p := ⟨bA, oA + (k + 1) * 2, none⟩) hbw).trans s1, (h.cell (p := ⟨bA, oA + (k + 1) * 2 + 1, none⟩) hbw).trans s2⟩) ?_; repeat (first | assumption | exact Below.refl _ _ | (refine Below.drew ?_) | (refine Below.alloc ?_ (by first | omega | (simp; omega) | exact Nat.le_trans hs1 (Below.size (by assumption)) | (simp only [World.size_drew, World.size_alloc]; exact Nat.le_trans hs1 (Nat.le_succ_of_le (Below.size (by assumption))))) _) | (refine Below.setCell ?_ (by first | omega | (simp; omega) | exact Nat.le_trans hs1 (Below.size (by assumption))) _))))
          (fail)
        all_goals (go_wp2_with fail; go_meet)
        all_goals
          first
          | refine ⟨w1.heap.size, w1.heap.size + 1, rfl, rfl, ?_, ?_, (‹Below w.heap.size w1 _ ∧ _›).1⟩
          | refine ⟨w1.heap.size + 1, w1.heap.size, rfl, rfl, ?_, ?_, (‹Below w.heap.size w1 _ ∧ _›).1⟩
        all_goals
          first
          | exact (((Below.refl (w1.heap.size + 1) (w1.alloc (.cells #[.int .i64 x1, .int .i64 y1] 31))).alloc (by simp) (.cells #[.int .i64 x2, .int .i64 y2] 31)).block w1.heap.size (by omega)).trans (heap_alloc_new _ _)
          | exact (((Below.refl (w1.heap.size + 1) (w1.alloc (.cells #[.int .i64 x2, .int .i64 y2] 31))).alloc (by simp) (.cells #[.int .i64 x1, .int .i64 y1] 31)).block w1.heap.size (by omega)).trans (heap_alloc_new _ _)
          | (show ((w1.alloc (.cells #[.int .i64 x1, .int .i64 y1] 31)).alloc (.cells #[.int .i64 x2, .int .i64 y2] 31)).heap[w1.heap.size + 1]? = _; have := heap_alloc_new (w1.alloc (.cells #[.int .i64 x1, .int .i64 y1] 31)) (.cells #[.int .i64 x2, .int .i64 y2] 31); rwa [World.size_alloc] at this)
          | (show ((w1.alloc (.cells #[.int .i64 x2, .int .i64 y2] 31)).alloc (.cells #[.int .i64 x1, .int .i64 y1] 31)).heap[w1.heap.size + 1]? = _; have := heap_alloc_new (w1.alloc (.cells #[.int .i64 x2, .int .i64 y2] 31)) (.cells #[.int .i64 x1, .int .i64 y1] 31); rwa [World.size_alloc] at this)
      case rest =>
      obtain ⟨g1, g2, rfl, rfl, HP1, HP2, HBW⟩ := hcut
      obtain ⟨W, rfl⟩ : ∃ x : World, x = wc := ⟨_, rfl⟩
      have HBA0 := Lib.hid (HB1.out.trans HBW.out)
      obtain ⟨b10, b11, _, _⟩ := two_cells HP1.out
      obtain ⟨b20, b21, _, _⟩ := two_cells HP2.out
      have wd1 : IntKind.i64.wrap (a - x1) = a - x1 := IntWalk.i64_in _ (by omega)
      have wd2 : IntKind.i64.wrap (y2 - y1) = y2 - y1 := IntWalk.i64_in _ (by omega)
      have wd3 : IntKind.i64.wrap (x2 - x1) = x2 - x1 := IntWalk.i64_in _ (by omega)
      have HLQ := Lib.hid (line_over (a := a) (y1 := y1) (y2 := y2) hi1)
      clear r1 r2 s1 s2 hkw hkt hbAw hbA hbC
      go_upto_region 12 with (fail)
      go_cut [12] (fun v12 wx => ∃ (ga : Nat) (ng : Bool) (A9 : Option Addr) (n9 c9 : Nat) (D9 : Option Addr) (m9 d9 : Nat), v12 = .pointer (some ⟨ga, 0, none⟩) ∧ Hid (wx.heap[ga]? = some (.cells #[.bool ng, .slice A9 n9 c9, .slice D9 m9 d9] 63 (0, 0))) ∧ Hid (RatAt wx wx.heap.size ng A9 n9 c9 D9 m9 d9 (mkRat ((a - x1) * (y2 - y1)) (x2 - x1).natAbs)) ∧ n9 ≤ 100 ∧ m9 ≤ 100 ∧ Hid (Below W.heap.size W wx) ∧ W.heap.size ≤ ga)
      case first =>
        refine wp_region_text 21 (fun x9 => x9.cell? ⟨g1, 0, none⟩ = some (.int .i64 x1) ∧ x9.cell? ⟨g1, 1, none⟩ = some (.int .i64 y1) ∧ x9.cell? ⟨g2, 0, none⟩ = some (.int .i64 x2) ∧ x9.cell? ⟨g2, 1, none⟩ = some (.int .i64 y2)) (by kernel_rfl) (by kernel_rfl) ?_
        obtain ⟨wc, hwc⟩ : ∃ x : World, x = W.drew := ⟨_, rfl⟩
        have hbn : Below W.heap.size W W.drew := (Below.refl _ _).drew
        clear hbn
        have HBc : Hid (Below W.heap.size W wc) := by show Below _ _ _; rw [hwc]; exact (Below.refl _ _).drew
        have hS : wc.cell? ⟨g1, 0, none⟩ = some (.int .i64 x1) ∧ wc.cell? ⟨g1, 1, none⟩ = some (.int .i64 y1) ∧ wc.cell? ⟨g2, 0, none⟩ = some (.int .i64 x2) ∧ wc.cell? ⟨g2, 1, none⟩ = some (.int .i64 y2) := by rw [hwc]; exact ⟨b10, b11, b20, b21⟩
        have hg_0 : g1 < wc.heap.size := by rw [hwc]; exact blk_lt HP1.out
        have hg_1 : g2 < wc.heap.size := by rw [hwc]; exact blk_lt HP2.out
        rw [← hwc]
        clear hwc
        refine HT.take (i := 0) (oi := _) (v := ?_) rfl (by kernel_rfl) (by kernel_rfl) (by decide) (fun _ _ _ h => h) (Or.inl ⟨by rfl, ?_⟩) hS ?_
        rotate_left
        · intro wz
          go_simp
          try with_reducible rfl
        simp only [List.getElem_toArray, List.getElem_cons_succ, List.getElem_cons_zero, Act.put, List.setIfInBounds_toArray, List.set_cons_zero, List.set_cons_succ]
        refine HT.take (i := 1) (oi := _) (v := ?_) rfl (by kernel_rfl) (by kernel_rfl) (by decide) (fun _ _ _ h => h) (Or.inl ⟨by rfl, ?_⟩) hS ?_
        rotate_left
        · intro wz
          go_simp
          try with_reducible rfl
        simp only [List.getElem_toArray, List.getElem_cons_succ, List.getElem_cons_zero, Act.put, List.setIfInBounds_toArray, List.set_cons_zero, List.set_cons_succ]
        refine HT.load (i := 2) (oi := _) (v := ?_) rfl (by kernel_rfl) (by kernel_rfl) (by decide) (fun _ _ _ h => h) (by kernel_rfl) (Or.inl ⟨by rfl, ?_⟩) hS ?_
        rotate_left
        · intro wz hwz
          try dsimp only at hwz
          go_simp
          try with_reducible rfl
        simp only [List.getElem_toArray, List.getElem_cons_succ, List.getElem_cons_zero, Act.put, List.setIfInBounds_toArray, List.set_cons_zero, List.set_cons_succ]
        refine HT.take (i := 3) (oi := _) (v := ?_) rfl (by kernel_rfl) (by kernel_rfl) (by decide) (fun _ _ _ h => h) (Or.inl ⟨by rfl, ?_⟩) hS ?_
        rotate_left
        · intro wz
          go_simp
          try with_reducible rfl
        simp only [List.getElem_toArray, List.getElem_cons_succ, List.getElem_cons_zero, Act.put, List.setIfInBounds_toArray, List.set_cons_zero, List.set_cons_succ]
        refine HT.take (i := 5) (oi := _) (v := ?_) rfl (by kernel_rfl) (by kernel_rfl) (by decide) (fun _ _ _ h => h) (Or.inl ⟨by rfl, ?_⟩) hS ?_
        rotate_left
        · intro wz
          go_simp
          try with_reducible rfl
        simp only [List.getElem_toArray, List.getElem_cons_succ, List.getElem_cons_zero, Act.put, List.setIfInBounds_toArray, List.set_cons_zero, List.set_cons_succ]
        refine HT.load (i := 6) (oi := _) (v := ?_) rfl (by kernel_rfl) (by kernel_rfl) (by decide) (fun _ _ _ h => h) (by kernel_rfl) (Or.inl ⟨by rfl, ?_⟩) hS ?_
        rotate_left
        · intro wz hwz
          try dsimp only at hwz
          go_simp
          try with_reducible rfl
        simp only [List.getElem_toArray, List.getElem_cons_succ, List.getElem_cons_zero, Act.put, List.setIfInBounds_toArray, List.set_cons_zero, List.set_cons_succ]
        refine HT.take (i := 7) (oi := _) (v := ?_) rfl (by kernel_rfl) (by kernel_rfl) (by decide) (fun _ _ _ h => h) (Or.inl ⟨by rfl, ?_⟩) hS ?_
        rotate_left
        · intro wz
          go_simp
          try with_reducible rfl
        simp only [List.getElem_toArray, List.getElem_cons_succ, List.getElem_cons_zero, Act.put, List.setIfInBounds_toArray, List.set_cons_zero, List.set_cons_succ]
        refine HT.load (i := 8) (oi := _) (v := ?_) rfl (by kernel_rfl) (by kernel_rfl) (by decide) (fun _ _ _ h => h) (by kernel_rfl) (Or.inl ⟨by rfl, ?_⟩) hS ?_
        rotate_left
        · intro wz hwz
          try dsimp only at hwz
          go_simp
          try with_reducible rfl
        simp only [List.getElem_toArray, List.getElem_cons_succ, List.getElem_cons_zero, Act.put, List.setIfInBounds_toArray, List.set_cons_zero, List.set_cons_succ]
        refine HT.take (i := 9) (oi := _) (v := ?_) rfl (by kernel_rfl) (by kernel_rfl) (by decide) (fun _ _ _ h => h) (Or.inl ⟨by rfl, ?_⟩) hS ?_
        rotate_left
        · intro wz
          go_simp
          try with_reducible rfl
        simp only [List.getElem_toArray, List.getElem_cons_succ, List.getElem_cons_zero, Act.put, List.setIfInBounds_toArray, List.set_cons_zero, List.set_cons_succ]
        refine HT.take (i := 12) (oi := _) (v := ?_) rfl (by kernel_rfl) (by kernel_rfl) (by decide) (fun _ _ _ h => h) (Or.inl ⟨by rfl, ?_⟩) hS ?_
        rotate_left
        · intro wz
          go_simp
          try with_reducible rfl
        simp only [List.getElem_toArray, List.getElem_cons_succ, List.getElem_cons_zero, Act.put, List.setIfInBounds_toArray, List.set_cons_zero, List.set_cons_succ]
        refine HT.load (i := 13) (oi := _) (v := ?_) rfl (by kernel_rfl) (by kernel_rfl) (by decide) (fun _ _ _ h => h) (by kernel_rfl) (Or.inl ⟨by rfl, ?_⟩) hS ?_
        rotate_left
        · intro wz hwz
          try dsimp only at hwz
          go_simp
          try with_reducible rfl
        simp only [List.getElem_toArray, List.getElem_cons_succ, List.getElem_cons_zero, Act.put, List.setIfInBounds_toArray, List.set_cons_zero, List.set_cons_succ]
        refine HT.take (i := 14) (oi := _) (v := ?_) rfl (by kernel_rfl) (by kernel_rfl) (by decide) (fun _ _ _ h => h) (Or.inl ⟨by rfl, ?_⟩) hS ?_
        rotate_left
        · intro wz
          go_simp
          try with_reducible rfl
        simp only [List.getElem_toArray, List.getElem_cons_succ, List.getElem_cons_zero, Act.put, List.setIfInBounds_toArray, List.set_cons_zero, List.set_cons_succ]
        refine HT.load (i := 15) (oi := _) (v := ?_) rfl (by kernel_rfl) (by kernel_rfl) (by decide) (fun _ _ _ h => h) (by kernel_rfl) (Or.inl ⟨by rfl, ?_⟩) hS ?_
        rotate_left
        · intro wz hwz
          try dsimp only at hwz
          go_simp
          try with_reducible rfl
        simp only [List.getElem_toArray, List.getElem_cons_succ, List.getElem_cons_zero, Act.put, List.setIfInBounds_toArray, List.set_cons_zero, List.set_cons_succ]
        refine HT.take (i := 16) (oi := _) (v := ?_) rfl (by kernel_rfl) (by kernel_rfl) (by decide) (fun _ _ _ h => h) (Or.inl ⟨by rfl, ?_⟩) hS ?_
        rotate_left
        · intro wz
          go_simp
          try with_reducible rfl
        simp only [List.getElem_toArray, List.getElem_cons_succ, List.getElem_cons_zero, Act.put, List.setIfInBounds_toArray, List.set_cons_zero, List.set_cons_succ]
        refine HT.two 4 20 (o := _) (o' := _) rfl rfl (by kernel_rfl) (by decide) (by decide) (by rfl) (by rfl) ?_ ?_
        · intro K hK
          go_simp
          refine (IOF_any (a - x1) (by omega) (by omega) _).mono ?_
          rintro e wn ⟨ng1, A1, n1, c1, rfl, hH1, k1, hbn⟩
          have H1 := Lib.hid hH1
          clear hH1
          have HBn := Lib.hid (HBc.out.trans (hbn.mono HBc.out.size))
          have hSn : wn.cell? ⟨g1, 0, none⟩ = some (.int .i64 x1) ∧ wn.cell? ⟨g1, 1, none⟩ = some (.int .i64 y1) ∧ wn.cell? ⟨g2, 0, none⟩ = some (.int .i64 x2) ∧ wn.cell? ⟨g2, 1, none⟩ = some (.int .i64 y2) := ⟨(hbn.cell (p := ⟨g1, 0, none⟩) hg_0).trans hS.1, (hbn.cell (p := ⟨g1, 1, none⟩) hg_0).trans hS.2.1, (hbn.cell (p := ⟨g2, 0, none⟩) hg_1).trans hS.2.2.1, (hbn.cell (p := ⟨g2, 1, none⟩) hg_1).trans hS.2.2.2⟩
          have hgn_0 := Nat.lt_of_lt_of_le hg_0 hbn.size
          have hgn_1 := Nat.lt_of_lt_of_le hg_1 hbn.size
          refine hK.out _ _ hSn ?_
          clear hK K hS HBc hg_0 hg_1
          try simp only [List.getElem_toArray, List.getElem_cons_succ, List.getElem_cons_zero, Act.put, List.setIfInBounds_toArray, List.set_cons_zero, List.set_cons_succ]
          have hS := hSn
          have HBc := HBn
          have hg_0 := hgn_0
          have hg_1 := hgn_1
          clear hSn HBn hbn hgn_0 hgn_1
          obtain ⟨wc, rfl⟩ : ∃ x : World, x = wn := ⟨_, rfl⟩
          refine HT.two 10 20 (o := _) (o' := _) rfl rfl (by kernel_rfl) (by decide) (by decide) (by rfl) (by rfl) ?_ ?_
          · intro K hK
            go_simp
            refine (IOF_any (y2 - y1) (by omega) (by omega) _).mono ?_
            rintro e wn ⟨ng2, A2, n2, c2, rfl, hH2, k2, hbn⟩
            have H2 := Lib.hid hH2
            clear hH2
            replace H1 := Lib.hid (H1.out.to hbn (Nat.le_refl _) hbn.size)
            have HBn := Lib.hid (HBc.out.trans (hbn.mono HBc.out.size))
            have hSn : wn.cell? ⟨g1, 0, none⟩ = some (.int .i64 x1) ∧ wn.cell? ⟨g1, 1, none⟩ = some (.int .i64 y1) ∧ wn.cell? ⟨g2, 0, none⟩ = some (.int .i64 x2) ∧ wn.cell? ⟨g2, 1, none⟩ = some (.int .i64 y2) := ⟨(hbn.cell (p := ⟨g1, 0, none⟩) hg_0).trans hS.1, (hbn.cell (p := ⟨g1, 1, none⟩) hg_0).trans hS.2.1, (hbn.cell (p := ⟨g2, 0, none⟩) hg_1).trans hS.2.2.1, (hbn.cell (p := ⟨g2, 1, none⟩) hg_1).trans hS.2.2.2⟩
            have hgn_0 := Nat.lt_of_lt_of_le hg_0 hbn.size
            have hgn_1 := Nat.lt_of_lt_of_le hg_1 hbn.size
            refine hK.out _ _ hSn ?_
            clear hK K hS HBc hg_0 hg_1
            try simp only [List.getElem_toArray, List.getElem_cons_succ, List.getElem_cons_zero, Act.put, List.setIfInBounds_toArray, List.set_cons_zero, List.set_cons_succ]
            have hS := hSn
            have HBc := HBn
            have hg_0 := hgn_0
            have hg_1 := hgn_1
            clear hSn HBn hbn hgn_0 hgn_1
            obtain ⟨wc, rfl⟩ : ∃ x : World, x = wn := ⟨_, rfl⟩
            refine HT.two 11 20 (o := _) (o' := _) rfl rfl (by kernel_rfl) (by decide) (by decide) (by rfl) (by rfl) ?_ ?_
            · intro K hK
              go_simp
              refine (IMUL_any ng1 ng2 A1 A2 n1 c1 n2 c2 _ _ (by omega) (by omega) _ wc.heap.size (Nat.le_refl _) H1 H2).mono ?_
              rintro e wn ⟨ng3, A3, n3, c3, rfl, hH3, k3, hbn⟩
              have H3 := Lib.hid hH3
              clear hH3
              clear H1 H2
              have HBn := Lib.hid (HBc.out.trans (hbn.mono HBc.out.size))
              have hSn : wn.cell? ⟨g1, 0, none⟩ = some (.int .i64 x1) ∧ wn.cell? ⟨g1, 1, none⟩ = some (.int .i64 y1) ∧ wn.cell? ⟨g2, 0, none⟩ = some (.int .i64 x2) ∧ wn.cell? ⟨g2, 1, none⟩ = some (.int .i64 y2) := ⟨(hbn.cell (p := ⟨g1, 0, none⟩) hg_0).trans hS.1, (hbn.cell (p := ⟨g1, 1, none⟩) hg_0).trans hS.2.1, (hbn.cell (p := ⟨g2, 0, none⟩) hg_1).trans hS.2.2.1, (hbn.cell (p := ⟨g2, 1, none⟩) hg_1).trans hS.2.2.2⟩
              have hgn_0 := Nat.lt_of_lt_of_le hg_0 hbn.size
              have hgn_1 := Nat.lt_of_lt_of_le hg_1 hbn.size
              refine hK.out _ _ hSn ?_
              clear hK K hS HBc hg_0 hg_1
              try simp only [List.getElem_toArray, List.getElem_cons_succ, List.getElem_cons_zero, Act.put, List.setIfInBounds_toArray, List.set_cons_zero, List.set_cons_succ]
              have hS := hSn
              have HBc := HBn
              have hg_0 := hgn_0
              have hg_1 := hgn_1
              clear hSn HBn hbn hgn_0 hgn_1
              obtain ⟨wc, rfl⟩ : ∃ x : World, x = wn := ⟨_, rfl⟩
              refine HT.two 17 20 (o := _) (o' := _) rfl rfl (by kernel_rfl) (by decide) (by decide) (by rfl) (by rfl) ?_ ?_
              · intro K hK
                go_simp
                refine (IOF_any (x2 - x1) (by omega) (by omega) _).mono ?_
                rintro e wn ⟨ng4, A4, n4, c4, rfl, hH4, k4, hbn⟩
                replace hH4 := hH4.2
                have H4 := Lib.hid hH4
                clear hH4
                replace H3 := Lib.hid (H3.out.to hbn (Nat.le_refl _) hbn.size)
                have HBn := Lib.hid (HBc.out.trans (hbn.mono HBc.out.size))
                have hSn : wn.cell? ⟨g1, 0, none⟩ = some (.int .i64 x1) ∧ wn.cell? ⟨g1, 1, none⟩ = some (.int .i64 y1) ∧ wn.cell? ⟨g2, 0, none⟩ = some (.int .i64 x2) ∧ wn.cell? ⟨g2, 1, none⟩ = some (.int .i64 y2) := ⟨(hbn.cell (p := ⟨g1, 0, none⟩) hg_0).trans hS.1, (hbn.cell (p := ⟨g1, 1, none⟩) hg_0).trans hS.2.1, (hbn.cell (p := ⟨g2, 0, none⟩) hg_1).trans hS.2.2.1, (hbn.cell (p := ⟨g2, 1, none⟩) hg_1).trans hS.2.2.2⟩
                have hgn_0 := Nat.lt_of_lt_of_le hg_0 hbn.size
                have hgn_1 := Nat.lt_of_lt_of_le hg_1 hbn.size
                refine hK.out _ _ hSn ?_
                clear hK K hS HBc hg_0 hg_1
                try simp only [List.getElem_toArray, List.getElem_cons_succ, List.getElem_cons_zero, Act.put, List.setIfInBounds_toArray, List.set_cons_zero, List.set_cons_succ]
                have hS := hSn
                have HBc := HBn
                have hg_0 := hgn_0
                have hg_1 := hgn_1
                clear hSn HBn hbn hgn_0 hgn_1
                obtain ⟨wc, rfl⟩ : ∃ x : World, x = wn := ⟨_, rfl⟩
                refine HT.take (i := 18) (oi := _) (v := .slice A4 n4 c4) rfl (by kernel_rfl) (by kernel_rfl) (by decide) (fun _ _ _ h => h) (Or.inl ⟨by rfl, ?_⟩) hS ?_
                · intro wz
                  first | exact (run_field_i1 ng4 A4 n4 c4 wz) | (go_simp; done) | (go_simp; exact (run_field_i1 ng4 A4 n4 c4 wz)) | (go_simp; simp only [(run_field_i1 ng4 A4 n4 c4 wz)]; rfl) | (go_simp; simp only [(run_field_i1 ng4 A4 n4 c4 wz)])
                simp only [List.getElem_toArray, List.getElem_cons_succ, List.getElem_cons_zero, Act.put, List.setIfInBounds_toArray, List.set_cons_zero, List.set_cons_succ]
                refine HT.two 19 20 (o := _) (o' := _) rfl rfl (by kernel_rfl) (by decide) (by decide) (by rfl) (by rfl) ?_ ?_
                · intro K hK
                  go_simp
                  refine (QOVER_any ng3 A3 A4 n3 c3 n4 c4 (x2 - x1).natAbs _ (by omega) (by omega) (by omega) _ wc.heap.size (Nat.le_refl _) H3 H4).mono ?_
                  rintro e wn ⟨ng5, A5, n5, c5, D5, m5, d5, rfl, hH5, k5, l5, hbn⟩
                  have H5 := Lib.hid hH5
                  clear hH5
                  clear H3 H4
                  have HBn := Lib.hid (HBc.out.trans (hbn.mono HBc.out.size))
                  have hSn : wn.cell? ⟨g1, 0, none⟩ = some (.int .i64 x1) ∧ wn.cell? ⟨g1, 1, none⟩ = some (.int .i64 y1) ∧ wn.cell? ⟨g2, 0, none⟩ = some (.int .i64 x2) ∧ wn.cell? ⟨g2, 1, none⟩ = some (.int .i64 y2) := ⟨(hbn.cell (p := ⟨g1, 0, none⟩) hg_0).trans hS.1, (hbn.cell (p := ⟨g1, 1, none⟩) hg_0).trans hS.2.1, (hbn.cell (p := ⟨g2, 0, none⟩) hg_1).trans hS.2.2.1, (hbn.cell (p := ⟨g2, 1, none⟩) hg_1).trans hS.2.2.2⟩
                  have hgn_0 := Nat.lt_of_lt_of_le hg_0 hbn.size
                  have hgn_1 := Nat.lt_of_lt_of_le hg_1 hbn.size
                  refine hK.out _ _ hSn ?_
                  clear hK K hS HBc hg_0 hg_1
                  try simp only [List.getElem_toArray, List.getElem_cons_succ, List.getElem_cons_zero, Act.put, List.setIfInBounds_toArray, List.set_cons_zero, List.set_cons_succ]
                  have hS := hSn
                  have HBc := HBn
                  have hg_0 := hgn_0
                  have hg_1 := hgn_1
                  clear hSn HBn hbn hgn_0 hgn_1
                  obtain ⟨wc, rfl⟩ : ∃ x : World, x = wn := ⟨_, rfl⟩
                  refine HT.one (i := 20) (o := _) rfl (by kernel_rfl) (by decide) (by rfl) ?_
                  intro K hK
                  go_simp
                  obtain ⟨wn, ga, hwn, hga9, hHA, hbn0, _⟩ := cell_new0 wc 63 #[.bool false, .slice none 0 0, .slice none 0 0]
                  have hbn := hbn0.out
                  have HGga : Hid (W.heap.size ≤ ga) := by show _ ≤ _; rw [hga9]; exact HBc.out.size
                  rw [← hwn, ← hga9]
                  have HA := hHA
                  clear hwn hga9 hbn0 hHA
                  replace H5 := Lib.hid (H5.out.to hbn (Nat.le_refl _) hbn.size)
                  have HBn := Lib.hid (HBc.out.trans (hbn.mono HBc.out.size))
                  have hSn : wn.cell? ⟨g1, 0, none⟩ = some (.int .i64 x1) ∧ wn.cell? ⟨g1, 1, none⟩ = some (.int .i64 y1) ∧ wn.cell? ⟨g2, 0, none⟩ = some (.int .i64 x2) ∧ wn.cell? ⟨g2, 1, none⟩ = some (.int .i64 y2) := ⟨(hbn.cell (p := ⟨g1, 0, none⟩) hg_0).trans hS.1, (hbn.cell (p := ⟨g1, 1, none⟩) hg_0).trans hS.2.1, (hbn.cell (p := ⟨g2, 0, none⟩) hg_1).trans hS.2.2.1, (hbn.cell (p := ⟨g2, 1, none⟩) hg_1).trans hS.2.2.2⟩
                  have hgn_0 := Nat.lt_of_lt_of_le hg_0 hbn.size
                  have hgn_1 := Nat.lt_of_lt_of_le hg_1 hbn.size
                  refine hK.out _ _ hSn ?_
                  clear hK K hS HBc hg_0 hg_1
                  try simp only [List.getElem_toArray, List.getElem_cons_succ, List.getElem_cons_zero, Act.put, List.setIfInBounds_toArray, List.set_cons_zero, List.set_cons_succ]
                  have hS := hSn
                  have HBc := HBn
                  have hg_0 := hgn_0
                  have hg_1 := hgn_1
                  clear hSn HBn hbn hgn_0 hgn_1
                  obtain ⟨wc, rfl⟩ : ∃ x : World, x = wn := ⟨_, rfl⟩
                  obtain ⟨hr0, hr1, hr2, hf0, hf1, hf2⟩ := three_cells HA.out
                  refine HT.done (by kernel_rfl) ?_
                  clear hS
                  simp only [List.drop_succ_cons, List.drop_zero]
                  have HAS := Lib.hid (box3_heap (v0 := .bool ng5) (v1 := .slice A5 n5 c5) (v2 := .slice D5 m5 d5) HA.out)
                  have HRS := Lib.hid (H5.out.box3 (g := ga) ⟨_, _, HA.out⟩ (by decide) (.bool ng5) (.slice A5 n5 c5) (.slice D5 m5 d5))
                  have HBS := Lib.hid (box3_below (v0 := .bool ng5) (v1 := .slice A5 n5 c5) (v2 := .slice D5 m5 d5) HBc.out HGga.out)
                  go_wp2_with fail
                  go_meet
                  exact ⟨ga, ng5, A5, n5, c5, D5, m5, d5, rfl, HAS, HRS, by omega, by omega, HBS, HGga.out⟩
                  -- H5 HA HGga
                · intro K hK
                  go_simp
                  obtain ⟨wn, ga, hwn, hga9, hHA, hbn0, _⟩ := cell_new0 wc 63 #[.bool false, .slice none 0 0, .slice none 0 0]
                  have hbn := hbn0.out
                  have HGga : Hid (W.heap.size ≤ ga) := by show _ ≤ _; rw [hga9]; exact HBc.out.size
                  rw [← hwn, ← hga9]
                  have HA := hHA
                  clear hwn hga9 hbn0 hHA
                  replace H3 := Lib.hid (H3.out.to hbn (Nat.le_refl _) hbn.size)
                  replace H4 := Lib.hid (H4.out.to hbn (Nat.le_refl _) hbn.size)
                  have HBn := Lib.hid (HBc.out.trans (hbn.mono HBc.out.size))
                  have hSn : wn.cell? ⟨g1, 0, none⟩ = some (.int .i64 x1) ∧ wn.cell? ⟨g1, 1, none⟩ = some (.int .i64 y1) ∧ wn.cell? ⟨g2, 0, none⟩ = some (.int .i64 x2) ∧ wn.cell? ⟨g2, 1, none⟩ = some (.int .i64 y2) := ⟨(hbn.cell (p := ⟨g1, 0, none⟩) hg_0).trans hS.1, (hbn.cell (p := ⟨g1, 1, none⟩) hg_0).trans hS.2.1, (hbn.cell (p := ⟨g2, 0, none⟩) hg_1).trans hS.2.2.1, (hbn.cell (p := ⟨g2, 1, none⟩) hg_1).trans hS.2.2.2⟩
                  have hgn_0 := Nat.lt_of_lt_of_le hg_0 hbn.size
                  have hgn_1 := Nat.lt_of_lt_of_le hg_1 hbn.size
                  refine hK.out _ _ hSn ?_
                  clear hK K hS HBc hg_0 hg_1
                  try simp only [List.getElem_toArray, List.getElem_cons_succ, List.getElem_cons_zero, Act.put, List.setIfInBounds_toArray, List.set_cons_zero, List.set_cons_succ]
                  have hS := hSn
                  have HBc := HBn
                  have hg_0 := hgn_0
                  have hg_1 := hgn_1
                  clear hSn HBn hbn hgn_0 hgn_1
                  obtain ⟨wc, rfl⟩ : ∃ x : World, x = wn := ⟨_, rfl⟩
                  refine HT.one (i := 19) (o := _) rfl (by kernel_rfl) (by decide) (by rfl) ?_
                  intro K hK
                  go_simp
                  refine (QOVER_any ng3 A3 A4 n3 c3 n4 c4 (x2 - x1).natAbs _ (by omega) (by omega) (by omega) _ wc.heap.size (Nat.le_refl _) H3 H4).mono ?_
                  rintro e wn ⟨ng5, A5, n5, c5, D5, m5, d5, rfl, hH5, k5, l5, hbn⟩
                  have H5 := Lib.hid hH5
                  clear hH5
                  clear H3 H4
                  replace HA := Lib.hid ((hbn.block ga (blk_lt HA.out)).trans HA.out)
                  have HBn := Lib.hid (HBc.out.trans (hbn.mono HBc.out.size))
                  have hSn : wn.cell? ⟨g1, 0, none⟩ = some (.int .i64 x1) ∧ wn.cell? ⟨g1, 1, none⟩ = some (.int .i64 y1) ∧ wn.cell? ⟨g2, 0, none⟩ = some (.int .i64 x2) ∧ wn.cell? ⟨g2, 1, none⟩ = some (.int .i64 y2) := ⟨(hbn.cell (p := ⟨g1, 0, none⟩) hg_0).trans hS.1, (hbn.cell (p := ⟨g1, 1, none⟩) hg_0).trans hS.2.1, (hbn.cell (p := ⟨g2, 0, none⟩) hg_1).trans hS.2.2.1, (hbn.cell (p := ⟨g2, 1, none⟩) hg_1).trans hS.2.2.2⟩
                  have hgn_0 := Nat.lt_of_lt_of_le hg_0 hbn.size
                  have hgn_1 := Nat.lt_of_lt_of_le hg_1 hbn.size
                  refine hK.out _ _ hSn ?_
                  clear hK K hS HBc hg_0 hg_1
                  try simp only [List.getElem_toArray, List.getElem_cons_succ, List.getElem_cons_zero, Act.put, List.setIfInBounds_toArray, List.set_cons_zero, List.set_cons_succ]
                  have hS := hSn
                  have HBc := HBn
                  have hg_0 := hgn_0
                  have hg_1 := hgn_1
                  clear hSn HBn hbn hgn_0 hgn_1
                  obtain ⟨wc, rfl⟩ : ∃ x : World, x = wn := ⟨_, rfl⟩
                  obtain ⟨hr0, hr1, hr2, hf0, hf1, hf2⟩ := three_cells HA.out
                  refine HT.done (by kernel_rfl) ?_
                  clear hS
                  simp only [List.drop_succ_cons, List.drop_zero]
                  have HAS := Lib.hid (box3_heap (v0 := .bool ng5) (v1 := .slice A5 n5 c5) (v2 := .slice D5 m5 d5) HA.out)
                  have HRS := Lib.hid (H5.out.box3 (g := ga) ⟨_, _, HA.out⟩ (by decide) (.bool ng5) (.slice A5 n5 c5) (.slice D5 m5 d5))
                  have HBS := Lib.hid (box3_below (v0 := .bool ng5) (v1 := .slice A5 n5 c5) (v2 := .slice D5 m5 d5) HBc.out HGga.out)
                  go_wp2_with fail
                  go_meet
                  exact ⟨ga, ng5, A5, n5, c5, D5, m5, d5, rfl, HAS, HRS, by omega, by omega, HBS, HGga.out⟩
                  -- H5 HA HGga
              · intro K hK
                go_simp
                obtain ⟨wn, ga, hwn, hga9, hHA, hbn0, _⟩ := cell_new0 wc 63 #[.bool false, .slice none 0 0, .slice none 0 0]
                have hbn := hbn0.out
                have HGga : Hid (W.heap.size ≤ ga) := by show _ ≤ _; rw [hga9]; exact HBc.out.size
                rw [← hwn, ← hga9]
                have HA := hHA
                clear hwn hga9 hbn0 hHA
                replace H3 := Lib.hid (H3.out.to hbn (Nat.le_refl _) hbn.size)
                have HBn := Lib.hid (HBc.out.trans (hbn.mono HBc.out.size))
                have hSn : wn.cell? ⟨g1, 0, none⟩ = some (.int .i64 x1) ∧ wn.cell? ⟨g1, 1, none⟩ = some (.int .i64 y1) ∧ wn.cell? ⟨g2, 0, none⟩ = some (.int .i64 x2) ∧ wn.cell? ⟨g2, 1, none⟩ = some (.int .i64 y2) := ⟨(hbn.cell (p := ⟨g1, 0, none⟩) hg_0).trans hS.1, (hbn.cell (p := ⟨g1, 1, none⟩) hg_0).trans hS.2.1, (hbn.cell (p := ⟨g2, 0, none⟩) hg_1).trans hS.2.2.1, (hbn.cell (p := ⟨g2, 1, none⟩) hg_1).trans hS.2.2.2⟩
                have hgn_0 := Nat.lt_of_lt_of_le hg_0 hbn.size
                have hgn_1 := Nat.lt_of_lt_of_le hg_1 hbn.size
                refine hK.out _ _ hSn ?_
                clear hK K hS HBc hg_0 hg_1
                try simp only [List.getElem_toArray, List.getElem_cons_succ, List.getElem_cons_zero, Act.put, List.setIfInBounds_toArray, List.set_cons_zero, List.set_cons_succ]
                have hS := hSn
                have HBc := HBn
                have hg_0 := hgn_0
                have hg_1 := hgn_1
                clear hSn HBn hbn hgn_0 hgn_1
                obtain ⟨wc, rfl⟩ : ∃ x : World, x = wn := ⟨_, rfl⟩
                refine HT.one (i := 17) (o := _) rfl (by kernel_rfl) (by decide) (by rfl) ?_
                intro K hK
                go_simp
                refine (IOF_any (x2 - x1) (by omega) (by omega) _).mono ?_
                rintro e wn ⟨ng4, A4, n4, c4, rfl, hH4, k4, hbn⟩
                replace hH4 := hH4.2
                have H4 := Lib.hid hH4
                clear hH4
                replace H3 := Lib.hid (H3.out.to hbn (Nat.le_refl _) hbn.size)
                replace HA := Lib.hid ((hbn.block ga (blk_lt HA.out)).trans HA.out)
                have HBn := Lib.hid (HBc.out.trans (hbn.mono HBc.out.size))
                have hSn : wn.cell? ⟨g1, 0, none⟩ = some (.int .i64 x1) ∧ wn.cell? ⟨g1, 1, none⟩ = some (.int .i64 y1) ∧ wn.cell? ⟨g2, 0, none⟩ = some (.int .i64 x2) ∧ wn.cell? ⟨g2, 1, none⟩ = some (.int .i64 y2) := ⟨(hbn.cell (p := ⟨g1, 0, none⟩) hg_0).trans hS.1, (hbn.cell (p := ⟨g1, 1, none⟩) hg_0).trans hS.2.1, (hbn.cell (p := ⟨g2, 0, none⟩) hg_1).trans hS.2.2.1, (hbn.cell (p := ⟨g2, 1, none⟩) hg_1).trans hS.2.2.2⟩
                have hgn_0 := Nat.lt_of_lt_of_le hg_0 hbn.size
                have hgn_1 := Nat.lt_of_lt_of_le hg_1 hbn.size
                refine hK.out _ _ hSn ?_
                clear hK K hS HBc hg_0 hg_1
                try simp only [List.getElem_toArray, List.getElem_cons_succ, List.getElem_cons_zero, Act.put, List.setIfInBounds_toArray, List.set_cons_zero, List.set_cons_succ]
                have hS := hSn
                have HBc := HBn
                have hg_0 := hgn_0
                have hg_1 := hgn_1
                clear hSn HBn hbn hgn_0 hgn_1
                obtain ⟨wc, rfl⟩ : ∃ x : World, x = wn := ⟨_, rfl⟩
                refine HT.take (i := 18) (oi := _) (v := .slice A4 n4 c4) rfl (by kernel_rfl) (by kernel_rfl) (by decide) (fun _ _ _ h => h) (Or.inl ⟨by rfl, ?_⟩) hS ?_
                · intro wz
                  first | exact (run_field_i1 ng4 A4 n4 c4 wz) | (go_simp; done) | (go_simp; exact (run_field_i1 ng4 A4 n4 c4 wz)) | (go_simp; simp only [(run_field_i1 ng4 A4 n4 c4 wz)]; rfl) | (go_simp; simp only [(run_field_i1 ng4 A4 n4 c4 wz)])
                simp only [List.getElem_toArray, List.getElem_cons_succ, List.getElem_cons_zero, Act.put, List.setIfInBounds_toArray, List.set_cons_zero, List.set_cons_succ]
                refine HT.one (i := 19) (o := _) rfl (by kernel_rfl) (by decide) (by rfl) ?_
                intro K hK
                go_simp
                refine (QOVER_any ng3 A3 A4 n3 c3 n4 c4 (x2 - x1).natAbs _ (by omega) (by omega) (by omega) _ wc.heap.size (Nat.le_refl _) H3 H4).mono ?_
                rintro e wn ⟨ng5, A5, n5, c5, D5, m5, d5, rfl, hH5, k5, l5, hbn⟩
                have H5 := Lib.hid hH5
                clear hH5
                clear H3 H4
                replace HA := Lib.hid ((hbn.block ga (blk_lt HA.out)).trans HA.out)
                have HBn := Lib.hid (HBc.out.trans (hbn.mono HBc.out.size))
                have hSn : wn.cell? ⟨g1, 0, none⟩ = some (.int .i64 x1) ∧ wn.cell? ⟨g1, 1, none⟩ = some (.int .i64 y1) ∧ wn.cell? ⟨g2, 0, none⟩ = some (.int .i64 x2) ∧ wn.cell? ⟨g2, 1, none⟩ = some (.int .i64 y2) := ⟨(hbn.cell (p := ⟨g1, 0, none⟩) hg_0).trans hS.1, (hbn.cell (p := ⟨g1, 1, none⟩) hg_0).trans hS.2.1, (hbn.cell (p := ⟨g2, 0, none⟩) hg_1).trans hS.2.2.1, (hbn.cell (p := ⟨g2, 1, none⟩) hg_1).trans hS.2.2.2⟩
                have hgn_0 := Nat.lt_of_lt_of_le hg_0 hbn.size
                have hgn_1 := Nat.lt_of_lt_of_le hg_1 hbn.size
                refine hK.out _ _ hSn ?_
                clear hK K hS HBc hg_0 hg_1
                try simp only [List.getElem_toArray, List.getElem_cons_succ, List.getElem_cons_zero, Act.put, List.setIfInBounds_toArray, List.set_cons_zero, List.set_cons_succ]
                have hS := hSn
                have HBc := HBn
                have hg_0 := hgn_0
                have hg_1 := hgn_1
                clear hSn HBn hbn hgn_0 hgn_1
                obtain ⟨wc, rfl⟩ : ∃ x : World, x = wn := ⟨_, rfl⟩
                obtain ⟨hr0, hr1, hr2, hf0, hf1, hf2⟩ := three_cells HA.out
                refine HT.done (by kernel_rfl) ?_
                clear hS
                simp only [List.drop_succ_cons, List.drop_zero]
                have HAS := Lib.hid (box3_heap (v0 := .bool ng5) (v1 := .slice A5 n5 c5) (v2 := .slice D5 m5 d5) HA.out)
                have HRS := Lib.hid (H5.out.box3 (g := ga) ⟨_, _, HA.out⟩ (by decide) (.bool ng5) (.slice A5 n5 c5) (.slice D5 m5 d5))
                have HBS := Lib.hid (box3_below (v0 := .bool ng5) (v1 := .slice A5 n5 c5) (v2 := .slice D5 m5 d5) HBc.out HGga.out)
                go_wp2_with fail
                go_meet
                exact ⟨ga, ng5, A5, n5, c5, D5, m5, d5, rfl, HAS, HRS, by omega, by omega, HBS, HGga.out⟩
                -- H5 HA HGga
            · intro K hK
              go_simp
              obtain ⟨wn, ga, hwn, hga9, hHA, hbn0, _⟩ := cell_new0 wc 63 #[.bool false, .slice none 0 0, .slice none 0 0]
              have hbn := hbn0.out
              have HGga : Hid (W.heap.size ≤ ga) := by show _ ≤ _; rw [hga9]; exact HBc.out.size
              rw [← hwn, ← hga9]
              have HA := hHA
              clear hwn hga9 hbn0 hHA
              replace H1 := Lib.hid (H1.out.to hbn (Nat.le_refl _) hbn.size)
              replace H2 := Lib.hid (H2.out.to hbn (Nat.le_refl _) hbn.size)
              have HBn := Lib.hid (HBc.out.trans (hbn.mono HBc.out.size))
              have hSn : wn.cell? ⟨g1, 0, none⟩ = some (.int .i64 x1) ∧ wn.cell? ⟨g1, 1, none⟩ = some (.int .i64 y1) ∧ wn.cell? ⟨g2, 0, none⟩ = some (.int .i64 x2) ∧ wn.cell? ⟨g2, 1, none⟩ = some (.int .i64 y2) := ⟨(hbn.cell (p := ⟨g1, 0, none⟩) hg_0).trans hS.1, (hbn.cell (p := ⟨g1, 1, none⟩) hg_0).trans hS.2.1, (hbn.cell (p := ⟨g2, 0, none⟩) hg_1).trans hS.2.2.1, (hbn.cell (p := ⟨g2, 1, none⟩) hg_1).trans hS.2.2.2⟩
              have hgn_0 := Nat.lt_of_lt_of_le hg_0 hbn.size
              have hgn_1 := Nat.lt_of_lt_of_le hg_1 hbn.size
              refine hK.out _ _ hSn ?_
              clear hK K hS HBc hg_0 hg_1
              try simp only [List.getElem_toArray, List.getElem_cons_succ, List.getElem_cons_zero, Act.put, List.setIfInBounds_toArray, List.set_cons_zero, List.set_cons_succ]
              have hS := hSn
              have HBc := HBn
              have hg_0 := hgn_0
              have hg_1 := hgn_1
              clear hSn HBn hbn hgn_0 hgn_1
              obtain ⟨wc, rfl⟩ : ∃ x : World, x = wn := ⟨_, rfl⟩
              refine HT.one (i := 11) (o := _) rfl (by kernel_rfl) (by decide) (by rfl) ?_
              intro K hK
              go_simp
              refine (IMUL_any ng1 ng2 A1 A2 n1 c1 n2 c2 _ _ (by omega) (by omega) _ wc.heap.size (Nat.le_refl _) H1 H2).mono ?_
              rintro e wn ⟨ng3, A3, n3, c3, rfl, hH3, k3, hbn⟩
              have H3 := Lib.hid hH3
              clear hH3
              clear H1 H2
              replace HA := Lib.hid ((hbn.block ga (blk_lt HA.out)).trans HA.out)
              have HBn := Lib.hid (HBc.out.trans (hbn.mono HBc.out.size))
              have hSn : wn.cell? ⟨g1, 0, none⟩ = some (.int .i64 x1) ∧ wn.cell? ⟨g1, 1, none⟩ = some (.int .i64 y1) ∧ wn.cell? ⟨g2, 0, none⟩ = some (.int .i64 x2) ∧ wn.cell? ⟨g2, 1, none⟩ = some (.int .i64 y2) := ⟨(hbn.cell (p := ⟨g1, 0, none⟩) hg_0).trans hS.1, (hbn.cell (p := ⟨g1, 1, none⟩) hg_0).trans hS.2.1, (hbn.cell (p := ⟨g2, 0, none⟩) hg_1).trans hS.2.2.1, (hbn.cell (p := ⟨g2, 1, none⟩) hg_1).trans hS.2.2.2⟩
              have hgn_0 := Nat.lt_of_lt_of_le hg_0 hbn.size
              have hgn_1 := Nat.lt_of_lt_of_le hg_1 hbn.size
              refine hK.out _ _ hSn ?_
              clear hK K hS HBc hg_0 hg_1
              try simp only [List.getElem_toArray, List.getElem_cons_succ, List.getElem_cons_zero, Act.put, List.setIfInBounds_toArray, List.set_cons_zero, List.set_cons_succ]
              have hS := hSn
              have HBc := HBn
              have hg_0 := hgn_0
              have hg_1 := hgn_1
              clear hSn HBn hbn hgn_0 hgn_1
              obtain ⟨wc, rfl⟩ : ∃ x : World, x = wn := ⟨_, rfl⟩
              refine HT.one (i := 17) (o := _) rfl (by kernel_rfl) (by decide) (by rfl) ?_
              intro K hK
              go_simp
              refine (IOF_any (x2 - x1) (by omega) (by omega) _).mono ?_
              rintro e wn ⟨ng4, A4, n4, c4, rfl, hH4, k4, hbn⟩
              replace hH4 := hH4.2
              have H4 := Lib.hid hH4
              clear hH4
              replace HA := Lib.hid ((hbn.block ga (blk_lt HA.out)).trans HA.out)
              replace H3 := Lib.hid (H3.out.to hbn (Nat.le_refl _) hbn.size)
              have HBn := Lib.hid (HBc.out.trans (hbn.mono HBc.out.size))
              have hSn : wn.cell? ⟨g1, 0, none⟩ = some (.int .i64 x1) ∧ wn.cell? ⟨g1, 1, none⟩ = some (.int .i64 y1) ∧ wn.cell? ⟨g2, 0, none⟩ = some (.int .i64 x2) ∧ wn.cell? ⟨g2, 1, none⟩ = some (.int .i64 y2) := ⟨(hbn.cell (p := ⟨g1, 0, none⟩) hg_0).trans hS.1, (hbn.cell (p := ⟨g1, 1, none⟩) hg_0).trans hS.2.1, (hbn.cell (p := ⟨g2, 0, none⟩) hg_1).trans hS.2.2.1, (hbn.cell (p := ⟨g2, 1, none⟩) hg_1).trans hS.2.2.2⟩
              have hgn_0 := Nat.lt_of_lt_of_le hg_0 hbn.size
              have hgn_1 := Nat.lt_of_lt_of_le hg_1 hbn.size
              refine hK.out _ _ hSn ?_
              clear hK K hS HBc hg_0 hg_1
              try simp only [List.getElem_toArray, List.getElem_cons_succ, List.getElem_cons_zero, Act.put, List.setIfInBounds_toArray, List.set_cons_zero, List.set_cons_succ]
              have hS := hSn
              have HBc := HBn
              have hg_0 := hgn_0
              have hg_1 := hgn_1
              clear hSn HBn hbn hgn_0 hgn_1
              obtain ⟨wc, rfl⟩ : ∃ x : World, x = wn := ⟨_, rfl⟩
              refine HT.take (i := 18) (oi := _) (v := .slice A4 n4 c4) rfl (by kernel_rfl) (by kernel_rfl) (by decide) (fun _ _ _ h => h) (Or.inl ⟨by rfl, ?_⟩) hS ?_
              · intro wz
                first | exact (run_field_i1 ng4 A4 n4 c4 wz) | (go_simp; done) | (go_simp; exact (run_field_i1 ng4 A4 n4 c4 wz)) | (go_simp; simp only [(run_field_i1 ng4 A4 n4 c4 wz)]; rfl) | (go_simp; simp only [(run_field_i1 ng4 A4 n4 c4 wz)])
              simp only [List.getElem_toArray, List.getElem_cons_succ, List.getElem_cons_zero, Act.put, List.setIfInBounds_toArray, List.set_cons_zero, List.set_cons_succ]
              refine HT.one (i := 19) (o := _) rfl (by kernel_rfl) (by decide) (by rfl) ?_
              intro K hK
              go_simp
              refine (QOVER_any ng3 A3 A4 n3 c3 n4 c4 (x2 - x1).natAbs _ (by omega) (by omega) (by omega) _ wc.heap.size (Nat.le_refl _) H3 H4).mono ?_
              rintro e wn ⟨ng5, A5, n5, c5, D5, m5, d5, rfl, hH5, k5, l5, hbn⟩
              have H5 := Lib.hid hH5
              clear hH5
              clear H3 H4
              replace HA := Lib.hid ((hbn.block ga (blk_lt HA.out)).trans HA.out)
              have HBn := Lib.hid (HBc.out.trans (hbn.mono HBc.out.size))
              have hSn : wn.cell? ⟨g1, 0, none⟩ = some (.int .i64 x1) ∧ wn.cell? ⟨g1, 1, none⟩ = some (.int .i64 y1) ∧ wn.cell? ⟨g2, 0, none⟩ = some (.int .i64 x2) ∧ wn.cell? ⟨g2, 1, none⟩ = some (.int .i64 y2) := ⟨(hbn.cell (p := ⟨g1, 0, none⟩) hg_0).trans hS.1, (hbn.cell (p := ⟨g1, 1, none⟩) hg_0).trans hS.2.1, (hbn.cell (p := ⟨g2, 0, none⟩) hg_1).trans hS.2.2.1, (hbn.cell (p := ⟨g2, 1, none⟩) hg_1).trans hS.2.2.2⟩
              have hgn_0 := Nat.lt_of_lt_of_le hg_0 hbn.size
              have hgn_1 := Nat.lt_of_lt_of_le hg_1 hbn.size
              refine hK.out _ _ hSn ?_
              clear hK K hS HBc hg_0 hg_1
              try simp only [List.getElem_toArray, List.getElem_cons_succ, List.getElem_cons_zero, Act.put, List.setIfInBounds_toArray, List.set_cons_zero, List.set_cons_succ]
              have hS := hSn
              have HBc := HBn
              have hg_0 := hgn_0
              have hg_1 := hgn_1
              clear hSn HBn hbn hgn_0 hgn_1
              obtain ⟨wc, rfl⟩ : ∃ x : World, x = wn := ⟨_, rfl⟩
              obtain ⟨hr0, hr1, hr2, hf0, hf1, hf2⟩ := three_cells HA.out
              refine HT.done (by kernel_rfl) ?_
              clear hS
              simp only [List.drop_succ_cons, List.drop_zero]
              have HAS := Lib.hid (box3_heap (v0 := .bool ng5) (v1 := .slice A5 n5 c5) (v2 := .slice D5 m5 d5) HA.out)
              have HRS := Lib.hid (H5.out.box3 (g := ga) ⟨_, _, HA.out⟩ (by decide) (.bool ng5) (.slice A5 n5 c5) (.slice D5 m5 d5))
              have HBS := Lib.hid (box3_below (v0 := .bool ng5) (v1 := .slice A5 n5 c5) (v2 := .slice D5 m5 d5) HBc.out HGga.out)
              go_wp2_with fail
              go_meet
              exact ⟨ga, ng5, A5, n5, c5, D5, m5, d5, rfl, HAS, HRS, by omega, by omega, HBS, HGga.out⟩
              -- H5 HA HGga
          · intro K hK
            go_simp
            obtain ⟨wn, ga, hwn, hga9, hHA, hbn0, _⟩ := cell_new0 wc 63 #[.bool false, .slice none 0 0, .slice none 0 0]
            have hbn := hbn0.out
            have HGga : Hid (W.heap.size ≤ ga) := by show _ ≤ _; rw [hga9]; exact HBc.out.size
            rw [← hwn, ← hga9]
            have HA := hHA
            clear hwn hga9 hbn0 hHA
            replace H1 := Lib.hid (H1.out.to hbn (Nat.le_refl _) hbn.size)
            have HBn := Lib.hid (HBc.out.trans (hbn.mono HBc.out.size))
            have hSn : wn.cell? ⟨g1, 0, none⟩ = some (.int .i64 x1) ∧ wn.cell? ⟨g1, 1, none⟩ = some (.int .i64 y1) ∧ wn.cell? ⟨g2, 0, none⟩ = some (.int .i64 x2) ∧ wn.cell? ⟨g2, 1, none⟩ = some (.int .i64 y2) := ⟨(hbn.cell (p := ⟨g1, 0, none⟩) hg_0).trans hS.1, (hbn.cell (p := ⟨g1, 1, none⟩) hg_0).trans hS.2.1, (hbn.cell (p := ⟨g2, 0, none⟩) hg_1).trans hS.2.2.1, (hbn.cell (p := ⟨g2, 1, none⟩) hg_1).trans hS.2.2.2⟩
            have hgn_0 := Nat.lt_of_lt_of_le hg_0 hbn.size
            have hgn_1 := Nat.lt_of_lt_of_le hg_1 hbn.size
            refine hK.out _ _ hSn ?_
            clear hK K hS HBc hg_0 hg_1
            try simp only [List.getElem_toArray, List.getElem_cons_succ, List.getElem_cons_zero, Act.put, List.setIfInBounds_toArray, List.set_cons_zero, List.set_cons_succ]
            have hS := hSn
            have HBc := HBn
            have hg_0 := hgn_0
            have hg_1 := hgn_1
            clear hSn HBn hbn hgn_0 hgn_1
            obtain ⟨wc, rfl⟩ : ∃ x : World, x = wn := ⟨_, rfl⟩
            refine HT.one (i := 10) (o := _) rfl (by kernel_rfl) (by decide) (by rfl) ?_
            intro K hK
            go_simp
            refine (IOF_any (y2 - y1) (by omega) (by omega) _).mono ?_
            rintro e wn ⟨ng2, A2, n2, c2, rfl, hH2, k2, hbn⟩
            have H2 := Lib.hid hH2
            clear hH2
            replace H1 := Lib.hid (H1.out.to hbn (Nat.le_refl _) hbn.size)
            replace HA := Lib.hid ((hbn.block ga (blk_lt HA.out)).trans HA.out)
            have HBn := Lib.hid (HBc.out.trans (hbn.mono HBc.out.size))
            have hSn : wn.cell? ⟨g1, 0, none⟩ = some (.int .i64 x1) ∧ wn.cell? ⟨g1, 1, none⟩ = some (.int .i64 y1) ∧ wn.cell? ⟨g2, 0, none⟩ = some (.int .i64 x2) ∧ wn.cell? ⟨g2, 1, none⟩ = some (.int .i64 y2) := ⟨(hbn.cell (p := ⟨g1, 0, none⟩) hg_0).trans hS.1, (hbn.cell (p := ⟨g1, 1, none⟩) hg_0).trans hS.2.1, (hbn.cell (p := ⟨g2, 0, none⟩) hg_1).trans hS.2.2.1, (hbn.cell (p := ⟨g2, 1, none⟩) hg_1).trans hS.2.2.2⟩
            have hgn_0 := Nat.lt_of_lt_of_le hg_0 hbn.size
            have hgn_1 := Nat.lt_of_lt_of_le hg_1 hbn.size
            refine hK.out _ _ hSn ?_
            clear hK K hS HBc hg_0 hg_1
            try simp only [List.getElem_toArray, List.getElem_cons_succ, List.getElem_cons_zero, Act.put, List.setIfInBounds_toArray, List.set_cons_zero, List.set_cons_succ]
            have hS := hSn
            have HBc := HBn
            have hg_0 := hgn_0
            have hg_1 := hgn_1
            clear hSn HBn hbn hgn_0 hgn_1
            obtain ⟨wc, rfl⟩ : ∃ x : World, x = wn := ⟨_, rfl⟩
            refine HT.one (i := 11) (o := _) rfl (by kernel_rfl) (by decide) (by rfl) ?_
            intro K hK
            go_simp
            refine (IMUL_any ng1 ng2 A1 A2 n1 c1 n2 c2 _ _ (by omega) (by omega) _ wc.heap.size (Nat.le_refl _) H1 H2).mono ?_
            rintro e wn ⟨ng3, A3, n3, c3, rfl, hH3, k3, hbn⟩
            have H3 := Lib.hid hH3
            clear hH3
            clear H1 H2
            replace HA := Lib.hid ((hbn.block ga (blk_lt HA.out)).trans HA.out)
            have HBn := Lib.hid (HBc.out.trans (hbn.mono HBc.out.size))
            have hSn : wn.cell? ⟨g1, 0, none⟩ = some (.int .i64 x1) ∧ wn.cell? ⟨g1, 1, none⟩ = some (.int .i64 y1) ∧ wn.cell? ⟨g2, 0, none⟩ = some (.int .i64 x2) ∧ wn.cell? ⟨g2, 1, none⟩ = some (.int .i64 y2) := ⟨(hbn.cell (p := ⟨g1, 0, none⟩) hg_0).trans hS.1, (hbn.cell (p := ⟨g1, 1, none⟩) hg_0).trans hS.2.1, (hbn.cell (p := ⟨g2, 0, none⟩) hg_1).trans hS.2.2.1, (hbn.cell (p := ⟨g2, 1, none⟩) hg_1).trans hS.2.2.2⟩
            have hgn_0 := Nat.lt_of_lt_of_le hg_0 hbn.size
            have hgn_1 := Nat.lt_of_lt_of_le hg_1 hbn.size
            refine hK.out _ _ hSn ?_
            clear hK K hS HBc hg_0 hg_1
            try simp only [List.getElem_toArray, List.getElem_cons_succ, List.getElem_cons_zero, Act.put, List.setIfInBounds_toArray, List.set_cons_zero, List.set_cons_succ]
            have hS := hSn
            have HBc := HBn
            have hg_0 := hgn_0
            have hg_1 := hgn_1
            clear hSn HBn hbn hgn_0 hgn_1
            obtain ⟨wc, rfl⟩ : ∃ x : World, x = wn := ⟨_, rfl⟩
            refine HT.one (i := 17) (o := _) rfl (by kernel_rfl) (by decide) (by rfl) ?_
            intro K hK
            go_simp
            refine (IOF_any (x2 - x1) (by omega) (by omega) _).mono ?_
            rintro e wn ⟨ng4, A4, n4, c4, rfl, hH4, k4, hbn⟩
            replace hH4 := hH4.2
            have H4 := Lib.hid hH4
            clear hH4
            replace HA := Lib.hid ((hbn.block ga (blk_lt HA.out)).trans HA.out)
            replace H3 := Lib.hid (H3.out.to hbn (Nat.le_refl _) hbn.size)
            have HBn := Lib.hid (HBc.out.trans (hbn.mono HBc.out.size))
            have hSn : wn.cell? ⟨g1, 0, none⟩ = some (.int .i64 x1) ∧ wn.cell? ⟨g1, 1, none⟩ = some (.int .i64 y1) ∧ wn.cell? ⟨g2, 0, none⟩ = some (.int .i64 x2) ∧ wn.cell? ⟨g2, 1, none⟩ = some (.int .i64 y2) := ⟨(hbn.cell (p := ⟨g1, 0, none⟩) hg_0).trans hS.1, (hbn.cell (p := ⟨g1, 1, none⟩) hg_0).trans hS.2.1, (hbn.cell (p := ⟨g2, 0, none⟩) hg_1).trans hS.2.2.1, (hbn.cell (p := ⟨g2, 1, none⟩) hg_1).trans hS.2.2.2⟩
            have hgn_0 := Nat.lt_of_lt_of_le hg_0 hbn.size
            have hgn_1 := Nat.lt_of_lt_of_le hg_1 hbn.size
            refine hK.out _ _ hSn ?_
            clear hK K hS HBc hg_0 hg_1
            try simp only [List.getElem_toArray, List.getElem_cons_succ, List.getElem_cons_zero, Act.put, List.setIfInBounds_toArray, List.set_cons_zero, List.set_cons_succ]
            have hS := hSn
            have HBc := HBn
            have hg_0 := hgn_0
            have hg_1 := hgn_1
            clear hSn HBn hbn hgn_0 hgn_1
            obtain ⟨wc, rfl⟩ : ∃ x : World, x = wn := ⟨_, rfl⟩
            refine HT.take (i := 18) (oi := _) (v := .slice A4 n4 c4) rfl (by kernel_rfl) (by kernel_rfl) (by decide) (fun _ _ _ h => h) (Or.inl ⟨by rfl, ?_⟩) hS ?_
            · intro wz
              first | exact (run_field_i1 ng4 A4 n4 c4 wz) | (go_simp; done) | (go_simp; exact (run_field_i1 ng4 A4 n4 c4 wz)) | (go_simp; simp only [(run_field_i1 ng4 A4 n4 c4 wz)]; rfl) | (go_simp; simp only [(run_field_i1 ng4 A4 n4 c4 wz)])
            simp only [List.getElem_toArray, List.getElem_cons_succ, List.getElem_cons_zero, Act.put, List.setIfInBounds_toArray, List.set_cons_zero, List.set_cons_succ]
            refine HT.one (i := 19) (o := _) rfl (by kernel_rfl) (by decide) (by rfl) ?_
            intro K hK
            go_simp
            refine (QOVER_any ng3 A3 A4 n3 c3 n4 c4 (x2 - x1).natAbs _ (by omega) (by omega) (by omega) _ wc.heap.size (Nat.le_refl _) H3 H4).mono ?_
            rintro e wn ⟨ng5, A5, n5, c5, D5, m5, d5, rfl, hH5, k5, l5, hbn⟩
            have H5 := Lib.hid hH5
            clear hH5
            clear H3 H4
            replace HA := Lib.hid ((hbn.block ga (blk_lt HA.out)).trans HA.out)
            have HBn := Lib.hid (HBc.out.trans (hbn.mono HBc.out.size))
            have hSn : wn.cell? ⟨g1, 0, none⟩ = some (.int .i64 x1) ∧ wn.cell? ⟨g1, 1, none⟩ = some (.int .i64 y1) ∧ wn.cell? ⟨g2, 0, none⟩ = some (.int .i64 x2) ∧ wn.cell? ⟨g2, 1, none⟩ = some (.int .i64 y2) := ⟨(hbn.cell (p := ⟨g1, 0, none⟩) hg_0).trans hS.1, (hbn.cell (p := ⟨g1, 1, none⟩) hg_0).trans hS.2.1, (hbn.cell (p := ⟨g2, 0, none⟩) hg_1).trans hS.2.2.1, (hbn.cell (p := ⟨g2, 1, none⟩) hg_1).trans hS.2.2.2⟩
            have hgn_0 := Nat.lt_of_lt_of_le hg_0 hbn.size
            have hgn_1 := Nat.lt_of_lt_of_le hg_1 hbn.size
            refine hK.out _ _ hSn ?_
            clear hK K hS HBc hg_0 hg_1
            try simp only [List.getElem_toArray, List.getElem_cons_succ, List.getElem_cons_zero, Act.put, List.setIfInBounds_toArray, List.set_cons_zero, List.set_cons_succ]
            have hS := hSn
            have HBc := HBn
            have hg_0 := hgn_0
            have hg_1 := hgn_1
            clear hSn HBn hbn hgn_0 hgn_1
            obtain ⟨wc, rfl⟩ : ∃ x : World, x = wn := ⟨_, rfl⟩
            obtain ⟨hr0, hr1, hr2, hf0, hf1, hf2⟩ := three_cells HA.out
            refine HT.done (by kernel_rfl) ?_
            clear hS
            simp only [List.drop_succ_cons, List.drop_zero]
            have HAS := Lib.hid (box3_heap (v0 := .bool ng5) (v1 := .slice A5 n5 c5) (v2 := .slice D5 m5 d5) HA.out)
            have HRS := Lib.hid (H5.out.box3 (g := ga) ⟨_, _, HA.out⟩ (by decide) (.bool ng5) (.slice A5 n5 c5) (.slice D5 m5 d5))
            have HBS := Lib.hid (box3_below (v0 := .bool ng5) (v1 := .slice A5 n5 c5) (v2 := .slice D5 m5 d5) HBc.out HGga.out)
            go_wp2_with fail
            go_meet
            exact ⟨ga, ng5, A5, n5, c5, D5, m5, d5, rfl, HAS, HRS, by omega, by omega, HBS, HGga.out⟩
            -- H5 HA HGga
        · intro K hK
          go_simp
          obtain ⟨wn, ga, hwn, hga9, hHA, hbn0, _⟩ := cell_new0 wc 63 #[.bool false, .slice none 0 0, .slice none 0 0]
          have hbn := hbn0.out
          have HGga : Hid (W.heap.size ≤ ga) := by show _ ≤ _; rw [hga9]; exact HBc.out.size
          rw [← hwn, ← hga9]
          have HA := hHA
          clear hwn hga9 hbn0 hHA
          have HBn := Lib.hid (HBc.out.trans (hbn.mono HBc.out.size))
          have hSn : wn.cell? ⟨g1, 0, none⟩ = some (.int .i64 x1) ∧ wn.cell? ⟨g1, 1, none⟩ = some (.int .i64 y1) ∧ wn.cell? ⟨g2, 0, none⟩ = some (.int .i64 x2) ∧ wn.cell? ⟨g2, 1, none⟩ = some (.int .i64 y2) := ⟨(hbn.cell (p := ⟨g1, 0, none⟩) hg_0).trans hS.1, (hbn.cell (p := ⟨g1, 1, none⟩) hg_0).trans hS.2.1, (hbn.cell (p := ⟨g2, 0, none⟩) hg_1).trans hS.2.2.1, (hbn.cell (p := ⟨g2, 1, none⟩) hg_1).trans hS.2.2.2⟩
          have hgn_0 := Nat.lt_of_lt_of_le hg_0 hbn.size
          have hgn_1 := Nat.lt_of_lt_of_le hg_1 hbn.size
          refine hK.out _ _ hSn ?_
          clear hK K hS HBc hg_0 hg_1
          try simp only [List.getElem_toArray, List.getElem_cons_succ, List.getElem_cons_zero, Act.put, List.setIfInBounds_toArray, List.set_cons_zero, List.set_cons_succ]
          have hS := hSn
          have HBc := HBn
          have hg_0 := hgn_0
          have hg_1 := hgn_1
          clear hSn HBn hbn hgn_0 hgn_1
          obtain ⟨wc, rfl⟩ : ∃ x : World, x = wn := ⟨_, rfl⟩
          refine HT.one (i := 4) (o := _) rfl (by kernel_rfl) (by decide) (by rfl) ?_
          intro K hK
          go_simp
          refine (IOF_any (a - x1) (by omega) (by omega) _).mono ?_
          rintro e wn ⟨ng1, A1, n1, c1, rfl, hH1, k1, hbn⟩
          have H1 := Lib.hid hH1
          clear hH1
          replace HA := Lib.hid ((hbn.block ga (blk_lt HA.out)).trans HA.out)
          have HBn := Lib.hid (HBc.out.trans (hbn.mono HBc.out.size))
          have hSn : wn.cell? ⟨g1, 0, none⟩ = some (.int .i64 x1) ∧ wn.cell? ⟨g1, 1, none⟩ = some (.int .i64 y1) ∧ wn.cell? ⟨g2, 0, none⟩ = some (.int .i64 x2) ∧ wn.cell? ⟨g2, 1, none⟩ = some (.int .i64 y2) := ⟨(hbn.cell (p := ⟨g1, 0, none⟩) hg_0).trans hS.1, (hbn.cell (p := ⟨g1, 1, none⟩) hg_0).trans hS.2.1, (hbn.cell (p := ⟨g2, 0, none⟩) hg_1).trans hS.2.2.1, (hbn.cell (p := ⟨g2, 1, none⟩) hg_1).trans hS.2.2.2⟩
          have hgn_0 := Nat.lt_of_lt_of_le hg_0 hbn.size
          have hgn_1 := Nat.lt_of_lt_of_le hg_1 hbn.size
          refine hK.out _ _ hSn ?_
          clear hK K hS HBc hg_0 hg_1
          try simp only [List.getElem_toArray, List.getElem_cons_succ, List.getElem_cons_zero, Act.put, List.setIfInBounds_toArray, List.set_cons_zero, List.set_cons_succ]
          have hS := hSn
          have HBc := HBn
          have hg_0 := hgn_0
          have hg_1 := hgn_1
          clear hSn HBn hbn hgn_0 hgn_1
          obtain ⟨wc, rfl⟩ : ∃ x : World, x = wn := ⟨_, rfl⟩
          refine HT.one (i := 10) (o := _) rfl (by kernel_rfl) (by decide) (by rfl) ?_
          intro K hK
          go_simp
          refine (IOF_any (y2 - y1) (by omega) (by omega) _).mono ?_
          rintro e wn ⟨ng2, A2, n2, c2, rfl, hH2, k2, hbn⟩
          have H2 := Lib.hid hH2
          clear hH2
          replace HA := Lib.hid ((hbn.block ga (blk_lt HA.out)).trans HA.out)
          replace H1 := Lib.hid (H1.out.to hbn (Nat.le_refl _) hbn.size)
          have HBn := Lib.hid (HBc.out.trans (hbn.mono HBc.out.size))
          have hSn : wn.cell? ⟨g1, 0, none⟩ = some (.int .i64 x1) ∧ wn.cell? ⟨g1, 1, none⟩ = some (.int .i64 y1) ∧ wn.cell? ⟨g2, 0, none⟩ = some (.int .i64 x2) ∧ wn.cell? ⟨g2, 1, none⟩ = some (.int .i64 y2) := ⟨(hbn.cell (p := ⟨g1, 0, none⟩) hg_0).trans hS.1, (hbn.cell (p := ⟨g1, 1, none⟩) hg_0).trans hS.2.1, (hbn.cell (p := ⟨g2, 0, none⟩) hg_1).trans hS.2.2.1, (hbn.cell (p := ⟨g2, 1, none⟩) hg_1).trans hS.2.2.2⟩
          have hgn_0 := Nat.lt_of_lt_of_le hg_0 hbn.size
          have hgn_1 := Nat.lt_of_lt_of_le hg_1 hbn.size
          refine hK.out _ _ hSn ?_
          clear hK K hS HBc hg_0 hg_1
          try simp only [List.getElem_toArray, List.getElem_cons_succ, List.getElem_cons_zero, Act.put, List.setIfInBounds_toArray, List.set_cons_zero, List.set_cons_succ]
          have hS := hSn
          have HBc := HBn
          have hg_0 := hgn_0
          have hg_1 := hgn_1
          clear hSn HBn hbn hgn_0 hgn_1
          obtain ⟨wc, rfl⟩ : ∃ x : World, x = wn := ⟨_, rfl⟩
          refine HT.one (i := 11) (o := _) rfl (by kernel_rfl) (by decide) (by rfl) ?_
          intro K hK
          go_simp
          refine (IMUL_any ng1 ng2 A1 A2 n1 c1 n2 c2 _ _ (by omega) (by omega) _ wc.heap.size (Nat.le_refl _) H1 H2).mono ?_
          rintro e wn ⟨ng3, A3, n3, c3, rfl, hH3, k3, hbn⟩
          have H3 := Lib.hid hH3
          clear hH3
          clear H1 H2
          replace HA := Lib.hid ((hbn.block ga (blk_lt HA.out)).trans HA.out)
          have HBn := Lib.hid (HBc.out.trans (hbn.mono HBc.out.size))
          have hSn : wn.cell? ⟨g1, 0, none⟩ = some (.int .i64 x1) ∧ wn.cell? ⟨g1, 1, none⟩ = some (.int .i64 y1) ∧ wn.cell? ⟨g2, 0, none⟩ = some (.int .i64 x2) ∧ wn.cell? ⟨g2, 1, none⟩ = some (.int .i64 y2) := ⟨(hbn.cell (p := ⟨g1, 0, none⟩) hg_0).trans hS.1, (hbn.cell (p := ⟨g1, 1, none⟩) hg_0).trans hS.2.1, (hbn.cell (p := ⟨g2, 0, none⟩) hg_1).trans hS.2.2.1, (hbn.cell (p := ⟨g2, 1, none⟩) hg_1).trans hS.2.2.2⟩
          have hgn_0 := Nat.lt_of_lt_of_le hg_0 hbn.size
          have hgn_1 := Nat.lt_of_lt_of_le hg_1 hbn.size
          refine hK.out _ _ hSn ?_
          clear hK K hS HBc hg_0 hg_1
          try simp only [List.getElem_toArray, List.getElem_cons_succ, List.getElem_cons_zero, Act.put, List.setIfInBounds_toArray, List.set_cons_zero, List.set_cons_succ]
          have hS := hSn
          have HBc := HBn
          have hg_0 := hgn_0
          have hg_1 := hgn_1
          clear hSn HBn hbn hgn_0 hgn_1
          obtain ⟨wc, rfl⟩ : ∃ x : World, x = wn := ⟨_, rfl⟩
          refine HT.one (i := 17) (o := _) rfl (by kernel_rfl) (by decide) (by rfl) ?_
          intro K hK
          go_simp
          refine (IOF_any (x2 - x1) (by omega) (by omega) _).mono ?_
          rintro e wn ⟨ng4, A4, n4, c4, rfl, hH4, k4, hbn⟩
          replace hH4 := hH4.2
          have H4 := Lib.hid hH4
          clear hH4
          replace HA := Lib.hid ((hbn.block ga (blk_lt HA.out)).trans HA.out)
          replace H3 := Lib.hid (H3.out.to hbn (Nat.le_refl _) hbn.size)
          have HBn := Lib.hid (HBc.out.trans (hbn.mono HBc.out.size))
          have hSn : wn.cell? ⟨g1, 0, none⟩ = some (.int .i64 x1) ∧ wn.cell? ⟨g1, 1, none⟩ = some (.int .i64 y1) ∧ wn.cell? ⟨g2, 0, none⟩ = some (.int .i64 x2) ∧ wn.cell? ⟨g2, 1, none⟩ = some (.int .i64 y2) := ⟨(hbn.cell (p := ⟨g1, 0, none⟩) hg_0).trans hS.1, (hbn.cell (p := ⟨g1, 1, none⟩) hg_0).trans hS.2.1, (hbn.cell (p := ⟨g2, 0, none⟩) hg_1).trans hS.2.2.1, (hbn.cell (p := ⟨g2, 1, none⟩) hg_1).trans hS.2.2.2⟩
          have hgn_0 := Nat.lt_of_lt_of_le hg_0 hbn.size
          have hgn_1 := Nat.lt_of_lt_of_le hg_1 hbn.size
          refine hK.out _ _ hSn ?_
          clear hK K hS HBc hg_0 hg_1
          try simp only [List.getElem_toArray, List.getElem_cons_succ, List.getElem_cons_zero, Act.put, List.setIfInBounds_toArray, List.set_cons_zero, List.set_cons_succ]
          have hS := hSn
          have HBc := HBn
          have hg_0 := hgn_0
          have hg_1 := hgn_1
          clear hSn HBn hbn hgn_0 hgn_1
          obtain ⟨wc, rfl⟩ : ∃ x : World, x = wn := ⟨_, rfl⟩
          refine HT.take (i := 18) (oi := _) (v := .slice A4 n4 c4) rfl (by kernel_rfl) (by kernel_rfl) (by decide) (fun _ _ _ h => h) (Or.inl ⟨by rfl, ?_⟩) hS ?_
          · intro wz
            first | exact (run_field_i1 ng4 A4 n4 c4 wz) | (go_simp; done) | (go_simp; exact (run_field_i1 ng4 A4 n4 c4 wz)) | (go_simp; simp only [(run_field_i1 ng4 A4 n4 c4 wz)]; rfl) | (go_simp; simp only [(run_field_i1 ng4 A4 n4 c4 wz)])
          simp only [List.getElem_toArray, List.getElem_cons_succ, List.getElem_cons_zero, Act.put, List.setIfInBounds_toArray, List.set_cons_zero, List.set_cons_succ]
          refine HT.one (i := 19) (o := _) rfl (by kernel_rfl) (by decide) (by rfl) ?_
          intro K hK
          go_simp
          refine (QOVER_any ng3 A3 A4 n3 c3 n4 c4 (x2 - x1).natAbs _ (by omega) (by omega) (by omega) _ wc.heap.size (Nat.le_refl _) H3 H4).mono ?_
          rintro e wn ⟨ng5, A5, n5, c5, D5, m5, d5, rfl, hH5, k5, l5, hbn⟩
          have H5 := Lib.hid hH5
          clear hH5
          clear H3 H4
          replace HA := Lib.hid ((hbn.block ga (blk_lt HA.out)).trans HA.out)
          have HBn := Lib.hid (HBc.out.trans (hbn.mono HBc.out.size))
          have hSn : wn.cell? ⟨g1, 0, none⟩ = some (.int .i64 x1) ∧ wn.cell? ⟨g1, 1, none⟩ = some (.int .i64 y1) ∧ wn.cell? ⟨g2, 0, none⟩ = some (.int .i64 x2) ∧ wn.cell? ⟨g2, 1, none⟩ = some (.int .i64 y2) := ⟨(hbn.cell (p := ⟨g1, 0, none⟩) hg_0).trans hS.1, (hbn.cell (p := ⟨g1, 1, none⟩) hg_0).trans hS.2.1, (hbn.cell (p := ⟨g2, 0, none⟩) hg_1).trans hS.2.2.1, (hbn.cell (p := ⟨g2, 1, none⟩) hg_1).trans hS.2.2.2⟩
          have hgn_0 := Nat.lt_of_lt_of_le hg_0 hbn.size
          have hgn_1 := Nat.lt_of_lt_of_le hg_1 hbn.size
          refine hK.out _ _ hSn ?_
          clear hK K hS HBc hg_0 hg_1
          try simp only [List.getElem_toArray, List.getElem_cons_succ, List.getElem_cons_zero, Act.put, List.setIfInBounds_toArray, List.set_cons_zero, List.set_cons_succ]
          have hS := hSn
          have HBc := HBn
          have hg_0 := hgn_0
          have hg_1 := hgn_1
          clear hSn HBn hbn hgn_0 hgn_1
          obtain ⟨wc, rfl⟩ : ∃ x : World, x = wn := ⟨_, rfl⟩
          obtain ⟨hr0, hr1, hr2, hf0, hf1, hf2⟩ := three_cells HA.out
          refine HT.done (by kernel_rfl) ?_
          clear hS
          simp only [List.drop_succ_cons, List.drop_zero]
          have HAS := Lib.hid (box3_heap (v0 := .bool ng5) (v1 := .slice A5 n5 c5) (v2 := .slice D5 m5 d5) HA.out)
          have HRS := Lib.hid (H5.out.box3 (g := ga) ⟨_, _, HA.out⟩ (by decide) (.bool ng5) (.slice A5 n5 c5) (.slice D5 m5 d5))
          have HBS := Lib.hid (box3_below (v0 := .bool ng5) (v1 := .slice A5 n5 c5) (v2 := .slice D5 m5 d5) HBc.out HGga.out)
          go_wp2_with fail
          go_meet
          exact ⟨ga, ng5, A5, n5, c5, D5, m5, d5, rfl, HAS, HRS, by omega, by omega, HBS, HGga.out⟩
          -- H5 HA HGga
      case rest =>
      obtain ⟨ga, ng, A9, n9, c9, D9, m9, d9, rfl, HA, H5, hn9, hm9, HBX, hga⟩ := hcut
      obtain ⟨W2, rfl⟩ : ∃ x : World, x = wc := ⟨_, rfl⟩
      obtain ⟨z0, z1, z2, _, _, _⟩ := three_cells HA.out
      have hg1 : g1 < W2.heap.size := Nat.lt_of_lt_of_le (blk_lt HP1.out) HBX.out.size
      have hga9 := blk_lt HA.out
      have b11' := (HBX.out.cell (p := ⟨g1, 1, none⟩) (blk_lt HP1.out)).trans b11
      have HBA := Lib.hid (HBA0.out.trans (HBX.out.mono HBA0.out.size))
      obtain ⟨⟨zz, zf⟩, hzz⟩ : ∃ p, posI (roundQ (((y1 : Int) : Rat) + mkRat ((a - x1) * (y2 - y1)) (x2 - x1).natAbs) way) = p := ⟨_, rfl⟩
      have HQ := Lib.hid hzz
      have HV2 : Hid (acrossS l a way = (zz, zf)) := by show _ = _; rw [HV.out, ← HLQ.out]; exact hzz
      replace HV := HV2
      clear hzz HV2 HLQ b10 b11 b20 b21 HP1 HP2 HBX
      have b11 := b11'
      clear b11'
      obtain ⟨W, rfl⟩ : ∃ x : World, x = W2 := ⟨_, rfl⟩
      go_upto_region 13 with (fail)
      refine wp_region_text 10 (fun x9 => x9.cell? ⟨g1, 1, none⟩ = some (.int .i64 y1) ∧ x9.cell? ⟨ga, 0, none⟩ = some (.bool ng) ∧ x9.cell? ⟨ga, 1, none⟩ = some (.slice A9 n9 c9) ∧ x9.cell? ⟨ga, 2, none⟩ = some (.slice D9 m9 d9)) (by kernel_rfl) (by kernel_rfl) ?_
      obtain ⟨wc, hwc⟩ : ∃ x : World, x = W.drew := ⟨_, rfl⟩
      have hbn : Below W.heap.size W W.drew := (Below.refl _ _).drew
      have H5 := Lib.hid (H5.out.to hbn (Nat.le_refl _) hbn.size)
      clear hbn
      have HBc : Hid (Below W.heap.size W wc) := by show Below _ _ _; rw [hwc]; exact (Below.refl _ _).drew
      have hS : wc.cell? ⟨g1, 1, none⟩ = some (.int .i64 y1) ∧ wc.cell? ⟨ga, 0, none⟩ = some (.bool ng) ∧ wc.cell? ⟨ga, 1, none⟩ = some (.slice A9 n9 c9) ∧ wc.cell? ⟨ga, 2, none⟩ = some (.slice D9 m9 d9) := by rw [hwc]; exact ⟨b11, z0, z1, z2⟩
      have hg_0 : g1 < wc.heap.size := by rw [hwc]; exact hg1
      have hg_1 : ga < wc.heap.size := by rw [hwc]; exact hga9
      rw [← hwc] at H5
      rw [← hwc]
      clear hwc
      refine HT.take (i := 0) (oi := _) (v := ?_) rfl (by kernel_rfl) (by kernel_rfl) (by decide) (fun _ _ _ h => h) (Or.inl ⟨by rfl, ?_⟩) hS ?_
      rotate_left
      · intro wz
        go_simp
        try with_reducible rfl
      simp only [List.getElem_toArray, List.getElem_cons_succ, List.getElem_cons_zero, Act.put, List.setIfInBounds_toArray, List.set_cons_zero, List.set_cons_succ]
      refine HT.load (i := 1) (oi := _) (v := ?_) rfl (by kernel_rfl) (by kernel_rfl) (by decide) (fun _ _ _ h => h) (by kernel_rfl) (Or.inl ⟨by rfl, ?_⟩) hS ?_
      rotate_left
      · intro wz hwz
        try dsimp only at hwz
        go_simp
        try with_reducible rfl
      simp only [List.getElem_toArray, List.getElem_cons_succ, List.getElem_cons_zero, Act.put, List.setIfInBounds_toArray, List.set_cons_zero, List.set_cons_succ]
      refine HT.load (i := 3) (oi := _) (v := ?_) rfl (by kernel_rfl) (by kernel_rfl) (by decide) (fun _ _ _ h => h) (by kernel_rfl) (Or.inl ⟨by rfl, ?_⟩) hS ?_
      rotate_left
      · intro wz hwz
        try dsimp only at hwz
        go_simp
        try with_reducible rfl
      simp only [List.getElem_toArray, List.getElem_cons_succ, List.getElem_cons_zero, Act.put, List.setIfInBounds_toArray, List.set_cons_zero, List.set_cons_succ]
      refine HT.take (i := 5) (oi := _) (v := ?_) rfl (by kernel_rfl) (by kernel_rfl) (by decide) (fun _ _ _ h => h) (Or.inl ⟨by rfl, ?_⟩) hS ?_
      rotate_left
      · intro wz
        go_simp
        try with_reducible rfl
      simp only [List.getElem_toArray, List.getElem_cons_succ, List.getElem_cons_zero, Act.put, List.setIfInBounds_toArray, List.set_cons_zero, List.set_cons_succ]
      refine HT.one (i := 2) (o := _) rfl (by kernel_rfl) (by decide) (by rfl) ?_
      intro K hK
      go_simp
      refine (QWHOLE_any y1 (by omega) (by omega) _).mono ?_
      rintro e wn ⟨ng6, A6, n6, c6, D6, m6, d6, rfl, hH6, k6, l6, hbn⟩
      have H6 := Lib.hid hH6
      clear hH6
      replace H5 := Lib.hid (H5.out.to hbn (Nat.le_refl _) hbn.size)
      have HBn := Lib.hid (HBc.out.trans (hbn.mono HBc.out.size))
      have hSn : wn.cell? ⟨g1, 1, none⟩ = some (.int .i64 y1) ∧ wn.cell? ⟨ga, 0, none⟩ = some (.bool ng) ∧ wn.cell? ⟨ga, 1, none⟩ = some (.slice A9 n9 c9) ∧ wn.cell? ⟨ga, 2, none⟩ = some (.slice D9 m9 d9) := ⟨(hbn.cell (p := ⟨g1, 1, none⟩) hg_0).trans hS.1, (hbn.cell (p := ⟨ga, 0, none⟩) hg_1).trans hS.2.1, (hbn.cell (p := ⟨ga, 1, none⟩) hg_1).trans hS.2.2.1, (hbn.cell (p := ⟨ga, 2, none⟩) hg_1).trans hS.2.2.2⟩
      have hgn_0 := Nat.lt_of_lt_of_le hg_0 hbn.size
      have hgn_1 := Nat.lt_of_lt_of_le hg_1 hbn.size
      refine hK.out _ _ hSn ?_
      clear hK K hS HBc hg_0 hg_1
      try simp only [List.getElem_toArray, List.getElem_cons_succ, List.getElem_cons_zero, Act.put, List.setIfInBounds_toArray, List.set_cons_zero, List.set_cons_succ]
      have hS := hSn
      have HBc := HBn
      have hg_0 := hgn_0
      have hg_1 := hgn_1
      clear hSn HBn hbn hgn_0 hgn_1
      obtain ⟨wc, rfl⟩ : ∃ x : World, x = wn := ⟨_, rfl⟩
      refine HT.one (i := 4) (o := _) rfl (by kernel_rfl) (by decide) (by rfl) ?_
      intro K hK
      go_simp
      refine (QADD_any ng6 ng A6 A9 D6 D9 n6 c6 m6 d6 n9 c9 m9 d9 _ _ (by omega) (by omega) (by omega) (by omega) _ wc.heap.size (Nat.le_refl _) H6 H5).mono ?_
      rintro e wn ⟨ng7, A7, n7, c7, D7, m7, d7, rfl, hH7, k7, l7, hbn⟩
      have H7 := Lib.hid hH7
      clear hH7
      clear H5 H6
      have HBn := Lib.hid (HBc.out.trans (hbn.mono HBc.out.size))
      have hSn : wn.cell? ⟨g1, 1, none⟩ = some (.int .i64 y1) ∧ wn.cell? ⟨ga, 0, none⟩ = some (.bool ng) ∧ wn.cell? ⟨ga, 1, none⟩ = some (.slice A9 n9 c9) ∧ wn.cell? ⟨ga, 2, none⟩ = some (.slice D9 m9 d9) := ⟨(hbn.cell (p := ⟨g1, 1, none⟩) hg_0).trans hS.1, (hbn.cell (p := ⟨ga, 0, none⟩) hg_1).trans hS.2.1, (hbn.cell (p := ⟨ga, 1, none⟩) hg_1).trans hS.2.2.1, (hbn.cell (p := ⟨ga, 2, none⟩) hg_1).trans hS.2.2.2⟩
      have hgn_0 := Nat.lt_of_lt_of_le hg_0 hbn.size
      have hgn_1 := Nat.lt_of_lt_of_le hg_1 hbn.size
      refine hK.out _ _ hSn ?_
      clear hK K hS HBc hg_0 hg_1
      try simp only [List.getElem_toArray, List.getElem_cons_succ, List.getElem_cons_zero, Act.put, List.setIfInBounds_toArray, List.set_cons_zero, List.set_cons_succ]
      have hS := hSn
      have HBc := HBn
      have hg_0 := hgn_0
      have hg_1 := hgn_1
      clear hSn HBn hbn hgn_0 hgn_1
      obtain ⟨wc, rfl⟩ : ∃ x : World, x = wn := ⟨_, rfl⟩
      refine HT.one (i := 6) (o := _) rfl (by kernel_rfl) (by decide) (by rfl) ?_
      intro K hK
      go_simp
      refine (CROUND_any ng7 A7 D7 n7 c7 m7 d7 _ way (by omega) (by omega) _ wc.heap.size (Nat.le_refl _) H7).mono ?_
      rintro e wn ⟨ng8, A8, n8, c8, rfl, hH8, k8, hbn⟩
      have H8 := Lib.hid hH8
      clear hH8
      clear H7
      have HBn := Lib.hid (HBc.out.trans (hbn.mono HBc.out.size))
      have hSn : wn.cell? ⟨g1, 1, none⟩ = some (.int .i64 y1) ∧ wn.cell? ⟨ga, 0, none⟩ = some (.bool ng) ∧ wn.cell? ⟨ga, 1, none⟩ = some (.slice A9 n9 c9) ∧ wn.cell? ⟨ga, 2, none⟩ = some (.slice D9 m9 d9) := ⟨(hbn.cell (p := ⟨g1, 1, none⟩) hg_0).trans hS.1, (hbn.cell (p := ⟨ga, 0, none⟩) hg_1).trans hS.2.1, (hbn.cell (p := ⟨ga, 1, none⟩) hg_1).trans hS.2.2.1, (hbn.cell (p := ⟨ga, 2, none⟩) hg_1).trans hS.2.2.2⟩
      have hgn_0 := Nat.lt_of_lt_of_le hg_0 hbn.size
      have hgn_1 := Nat.lt_of_lt_of_le hg_1 hbn.size
      refine hK.out _ _ hSn ?_
      clear hK K hS HBc hg_0 hg_1
      try simp only [List.getElem_toArray, List.getElem_cons_succ, List.getElem_cons_zero, Act.put, List.setIfInBounds_toArray, List.set_cons_zero, List.set_cons_succ]
      have hS := hSn
      have HBc := HBn
      have hg_0 := hgn_0
      have hg_1 := hgn_1
      clear hSn HBn hbn hgn_0 hgn_1
      obtain ⟨wc, rfl⟩ : ∃ x : World, x = wn := ⟨_, rfl⟩
      refine HT.one (i := 7) (o := _) rfl (by kernel_rfl) (by decide) (by rfl) ?_
      intro K hK
      go_simp
      refine (POSITION_any ng8 A8 n8 c8 _ _ wc.heap.size (Nat.le_refl _) H8).mono ?_
      rintro e wn ⟨rfl, hbn⟩
      rw [HQ.out]
      clear H8
      have HBn := Lib.hid (HBc.out.trans (hbn.mono HBc.out.size))
      have hSn : wn.cell? ⟨g1, 1, none⟩ = some (.int .i64 y1) ∧ wn.cell? ⟨ga, 0, none⟩ = some (.bool ng) ∧ wn.cell? ⟨ga, 1, none⟩ = some (.slice A9 n9 c9) ∧ wn.cell? ⟨ga, 2, none⟩ = some (.slice D9 m9 d9) := ⟨(hbn.cell (p := ⟨g1, 1, none⟩) hg_0).trans hS.1, (hbn.cell (p := ⟨ga, 0, none⟩) hg_1).trans hS.2.1, (hbn.cell (p := ⟨ga, 1, none⟩) hg_1).trans hS.2.2.1, (hbn.cell (p := ⟨ga, 2, none⟩) hg_1).trans hS.2.2.2⟩
      have hgn_0 := Nat.lt_of_lt_of_le hg_0 hbn.size
      have hgn_1 := Nat.lt_of_lt_of_le hg_1 hbn.size
      refine hK.out _ _ hSn ?_
      clear hK K hS HBc hg_0 hg_1
      try simp only [List.getElem_toArray, List.getElem_cons_succ, List.getElem_cons_zero, Act.put, List.setIfInBounds_toArray, List.set_cons_zero, List.set_cons_succ]
      have hS := hSn
      have HBc := HBn
      have hg_0 := hgn_0
      have hg_1 := hgn_1
      clear hSn HBn hbn hgn_0 hgn_1
      obtain ⟨wc, rfl⟩ : ∃ x : World, x = wn := ⟨_, rfl⟩
      refine HT.take (i := 8) (oi := _) (v := ?_) rfl (by kernel_rfl) (by kernel_rfl) (by decide) (fun _ _ _ h => h) (Or.inl ⟨by rfl, ?_⟩) hS ?_
      rotate_left
      · intro wz
        go_simp
        try with_reducible rfl
      simp only [List.getElem_toArray, List.getElem_cons_succ, List.getElem_cons_zero, Act.put, List.setIfInBounds_toArray, List.set_cons_zero, List.set_cons_succ]
      refine HT.take (i := 9) (oi := _) (v := ?_) rfl (by kernel_rfl) (by kernel_rfl) (by decide) (fun _ _ _ h => h) (Or.inl ⟨by rfl, ?_⟩) hS ?_
      rotate_left
      · intro wz
        go_simp
        try with_reducible rfl
      simp only [List.getElem_toArray, List.getElem_cons_succ, List.getElem_cons_zero, Act.put, List.setIfInBounds_toArray, List.set_cons_zero, List.set_cons_succ]
      refine HT.done (by kernel_rfl) ?_
      clear hS
      simp only [List.drop_succ_cons, List.drop_zero]
      go_wp2_with fail
      go_ret2
      exact ⟨by rw [HV.out]; rfl, HBA.out.trans (HBc.out.mono HBA.out.size)⟩
      -- HV
end Go.Proofs.YthjmhdnamhifjaaDoor
