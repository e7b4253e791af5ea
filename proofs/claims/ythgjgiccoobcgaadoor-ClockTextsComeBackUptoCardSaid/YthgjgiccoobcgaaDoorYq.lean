/- moment, the sound of a map of tempos: what it reckons. -/
import Derived.Test.YthgjgiccoobcgaaDoorTickS
import Derived.Test.YthgjgiccoobcgaaDoorZa
import Derived.Test.YthgjgiccoobcgaaDoorMem
import Derived.Test.YthgjgiccoobcgaaDoorRegion2
import Derived.IntWalk
import Derived.Deep.Cut
import Derived.RegionTactic
import Derived.BigRegion
import Derived.OwnWalk
import Derived.Deep.OwnRows
import Derived.Laws.OwnMore
import Derived.Deep.RegionHeld3
import Derived.Deep.CutRange
set_option linter.unusedSimpArgs false
set_option linter.unusedVariables false
namespace Go.Proofs.YthgjgiccoobcgaaDoor
open Go.RowKit Go.Dw
/-- tempos that are right -/
structure OkP (l : List Pr) : Prop where
  inc : incT l
  rng : ∀ p ∈ l, 0 ≤ p.1 ∧ p.1 ≤ 1000000000
  some : 0 < l.length
  few : l.length ≤ 200
  first : (prOf l 0).1 = 0
theorem incT_tail : ∀ {l : List Pr} {p : Pr}, incT (p :: l) → incT l
  | [], _, _ => trivial
  | _ :: _, _, h => h.2.2
theorem incT_drop : ∀ {l : List Pr} (k : Nat), incT l → incT (l.drop k)
  | _, 0, h => h
  | [], k + 1, h => h
  | p :: l, k + 1, h => incT_drop k (incT_tail h)
theorem mom_cons {t : Int} {p : Pr} {l : List Pr} (hl : 0 < l.length) : mom t (p :: l) = if min t (prOf l 0).1 ≤ p.1 then 0 else (min t (prOf l 0).1 - p.1) * p.2 + mom t l := by
  cases l with
  | nil => simp at hl
  | cons q r => rfl
theorem mom_last {t : Int} {p : Pr} {l : List Pr} (hl : l.length = 0) : mom t (p :: l) = if t ≤ p.1 then 0 else (t - p.1) * p.2 := by
  cases l with
  | nil => rfl
  | cons q r => simp at hl
theorem incT_head {p : Pr} {l : List Pr} (h : incT (p :: l)) : 1 ≤ p.2 ∧ p.2 ≤ 60000000 := by
  cases l with
  | nil => exact h
  | cons q r => exact h.1
theorem mom_pos {t : Int} : ∀ {l : List Pr}, incT l → 0 ≤ mom t l
  | [], _ => Int.le_refl _
  | p :: l, h => by
    by_cases ht : p.1 ≤ t
    · exact (mom_le h ht).1
    · rw [mom_low (by omega)]; exact Int.le_refl _
end Go.Proofs.YthgjgiccoobcgaaDoor

/- checkRows. -/
set_option linter.unusedSimpArgs false
set_option linter.unusedVariables false
namespace Go.Proofs.YthgjgiccoobcgaaDoor
open Go.RowKit Go.Dw
/-- a row of values that lies below block B -/
def VsAt (w : World) (B : Nat) (A : Option Addr) (n : Nat) (f : Nat → Value) : Prop :=
  ∀ k, k < n → ∃ b o, A = some ⟨b, o, none⟩ ∧ b < B ∧ w.cell? ⟨b, o + k, none⟩ = some (f k)
theorem VsAt.below {w w' : World} {B B' : Nat} {A : Option Addr} {n : Nat} {f : Nat → Value} (h : VsAt w B A n f) (hb : Below B' w w') (hB : B ≤ B') : VsAt w' B A n f := fun k hk => by
  obtain ⟨b, o, e, h1, h2⟩ := h k hk
  exact ⟨b, o, e, h1, (hb.cell (p := ⟨b, o + k, none⟩) (by dsimp only; omega)).trans h2⟩
def rowF (a : Nat → Int) (r : Nat → Bool) : Nat → Nat → Int
  | 0, _ => 0
  | d + 1, k => if a k < 0 ∨ 1000000000 < a k ∨ r k = false then 1 else if (k = 0 ∧ a k ≠ 0) ∨ (0 < k ∧ a k ≤ a (k - 1)) then 8 else rowF a r d (k + 1)
def chkRow (a : Nat → Int) (r : Nat → Bool) (n : Nat) : Int := if n = 0 then 9 else if 200 < n then 2 else rowF a r n 0
set_option maxRecDepth 100000 in
set_option maxHeartbeats 4000000 in
theorem CHECKROWS_ok (A A' : Option Addr) (n c c' : Nat) (a : Nat → Int) (r : Nat → Bool) (h0 : 0 < n) (h2 : n ≤ 200) (w : World) (hx : Hid (VsAt w w.heap.size A n fun k => .int .i64 (a k))) (hy : Hid (VsAt w w.heap.size A' n fun k => .bool (r k))) :
    Calls Tryd.prog 57 #[.slice A n c, .slice A' n c'] w fun e w' => e = .returned (.int .i64 (rowF a r n 0)) ∧ w = w' := by
  have d1 : ((n : Int) == 0) = false := by simp; omega
  have d2 : decide ((200 : Int) < (n : Int)) = false := by simp; omega
  go_enter Tryd.func57, Tryd.ntmps57
  go_wp2_with fail
  go_loopw [15] (fun i wr => ∃ k : Nat, k ≤ n ∧ i = .int .i64 k ∧ wr = w ∧ Hid (rowF a r n 0 = rowF a r (n - k) k)) (fun i _ => n - (intOf i).toNat)
  case atStart => exact ⟨0, Nat.zero_le _, rfl, rfl, (show _ = _ by rw [Nat.sub_zero])⟩
  case round =>
    obtain ⟨k, hk, rfl, rfl, hR⟩ := hrel
    by_cases hlt : k < n
    · obtain ⟨bA, oA, rfl, hbA, k1⟩ := hx.out k hlt
      obtain ⟨bC, oC, rfl, hbC, m1⟩ := hy.out k hlt
      dsimp only at k1 m1
      have HSTEP : Hid (rowF a r n 0 = if a k < 0 ∨ 1000000000 < a k ∨ r k = false then 1 else if (k = 0 ∧ a k ≠ 0) ∨ (0 < k ∧ a k ≤ a (k - 1)) then 8 else rowF a r (n - (k + 1)) (k + 1)) := by
        show _ = _
        rw [hR.out, show n - k = (n - (k + 1)) + 1 by omega]; rfl
      have hk0 : (0 : Int) ≤ (k : Int) := by omega
      have hkn : (k : Int) < (n : Int) := by omega
      obtain ⟨x, hxx⟩ : ∃ x, a k = x := ⟨_, rfl⟩
      obtain ⟨y, hyy⟩ : ∃ y, r k = y := ⟨_, rfl⟩
      rw [hxx, hyy] at HSTEP
      rw [hxx] at k1
      rw [hyy] at m1
      clear hxx hyy
      by_cases hbad : x < 0 ∨ 1000000000 < x ∨ y = false
      · have HE : Hid (rowF a r n 0 = 1) := by show _ = _; rw [HSTEP.out, if_pos hbad]
        clear HSTEP
        have hb3 : x < 0 ∨ (¬ x < 0 ∧ 1000000000 < x) ∨ (¬ x < 0 ∧ ¬ 1000000000 < x ∧ y = false) := by
          rcases hbad with h | h | h
          · exact .inl h
          · omega
          · by_cases h5 : x < 0
            · exact .inl h5
            · by_cases h6 : 1000000000 < x
              · exact .inr (.inl ⟨h5, h6⟩)
              · exact .inr (.inr ⟨h5, h6, h⟩)
        clear hbad
        rcases hb3 with g1 | ⟨g1, g2⟩ | ⟨g1, g2, g3⟩
        · go_wp2_with fail
          go_ret
          exact ⟨by rw [HE.out]; rfl, rfl⟩
        · go_wp2_with fail
          go_ret
          exact ⟨by rw [HE.out]; rfl, rfl⟩
        · subst g3
          go_wp2_with fail
          go_ret
          exact ⟨by rw [HE.out]; rfl, rfl⟩
      have g1 : ¬ x < 0 := fun h => hbad (.inl h)
      have g2 : ¬ 1000000000 < x := fun h => hbad (.inr (.inl h))
      have g3 : y = true := by cases y with | true => rfl | false => exact absurd (.inr (.inr rfl)) hbad
      subst g3
      rw [if_neg hbad] at HSTEP
      clear hbad
      by_cases hz : k = 0
      · subst hz
        rw [Nat.add_zero] at k1 m1
        by_cases hx0 : x = 0
        · subst hx0
          have HN : Hid (rowF a r n 0 = rowF a r (n - (0 + 1)) (0 + 1)) := by show _ = _; rw [HSTEP.out, if_neg (by rintro (⟨_, h⟩ | ⟨h, _⟩); exact h rfl; omega)]
          clear HSTEP
          go_wp2_with fail
          go_roundw
          case rel => exact ⟨1, by omega, by go_num, trivial, HN⟩
          case measure => simp [intOf]; omega
        · have HE : Hid (rowF a r n 0 = 8) := by show _ = _; rw [HSTEP.out, if_pos (.inl ⟨rfl, hx0⟩)]
          have hne : (x != 0) = true := by simpa using hx0
          clear HSTEP
          go_wp2_with fail
          go_ret
          exact ⟨by rw [HE.out]; rfl, rfl⟩
      · obtain ⟨j, rfl⟩ : ∃ j, k = j + 1 := ⟨k - 1, by omega⟩
        obtain ⟨b5, o5, e5, _, k5⟩ := hx.out j (by omega)
        injection e5 with e5
        injection e5 with e6 e7 _
        subst e6 e7
        dsimp only at k5
        rw [show j + 1 - 1 = j by omega] at HSTEP
        obtain ⟨z, hzz⟩ : ∃ z, a j = z := ⟨_, rfl⟩
        rw [hzz] at HSTEP k5
        have hkz : ((((j + 1 : Nat) : Int)) == 0) = false := by rw [beq_eq_false_iff_ne]; omega
        have hkp : decide ((0 : Int) < ((j + 1 : Nat) : Int)) = true := by rw [decide_eq_true_eq]; omega
        have hjj : ((j + 1 : Nat) : Int) - 1 = (j : Int) := by omega
        have hj0 : (0 : Int) ≤ (j : Int) := by omega
        clear hzz hz
        by_cases hle : x ≤ z
        · have HE : Hid (rowF a r n 0 = 8) := by show _ = _; rw [HSTEP.out, if_pos (.inr ⟨by omega, hle⟩)]
          clear HSTEP
          go_wp2_with fail
          go_ret
          exact ⟨by rw [HE.out]; rfl, rfl⟩
        · have HN : Hid (rowF a r n 0 = rowF a r (n - (j + 1 + 1)) (j + 1 + 1)) := by show _ = _; rw [HSTEP.out, if_neg (by rintro (⟨h, _⟩ | ⟨_, h⟩); omega; exact hle h)]
          clear HSTEP
          go_wp2_with fail
          go_roundw
          case rel => exact ⟨j + 1 + 1, by omega, by go_num, trivial, HN⟩
          case measure => simp [intOf]; omega
    · obtain rfl : k = n := by omega
      go_wp2_with fail
      go_ret
      exact ⟨by rw [hR.out, Nat.sub_self]; rfl, rfl⟩
end Go.Proofs.YthgjgiccoobcgaaDoor

/- CheckTempo. -/
set_option linter.unusedSimpArgs false
set_option linter.unusedVariables false
namespace Go.Proofs.YthgjgiccoobcgaaDoor
open Go.RowKit Go.Dw
set_option maxRecDepth 100000 in
set_option maxHeartbeats 1000000 in
theorem CHECKROWS_any (A A' : Option Addr) (n c c' : Nat) (a : Nat → Int) (r : Nat → Bool) (w : World) (hx : Hid (VsAt w w.heap.size A n fun k => .int .i64 (a k))) (hy : Hid (VsAt w w.heap.size A' n fun k => .bool (r k))) :
    Calls Tryd.prog 57 #[.slice A n c, .slice A' n c'] w fun e w' => e = .returned (.int .i64 (chkRow a r n)) ∧ w = w' := by
  unfold chkRow
  by_cases h0 : n = 0
  · rw [if_pos h0]
    subst h0
    clear hx hy
    go_enter Tryd.func57, Tryd.ntmps57
    go_wp2_with fail
    go_ret
    exact ⟨rfl, rfl⟩
  · rw [if_neg h0]
    by_cases h2 : 200 < n
    · rw [if_pos h2]
      have d1 : ((n : Int) == 0) = false := by simp; omega
      have d2 : decide ((200 : Int) < (n : Int)) = true := by simp; omega
      clear hx hy h0 h2
      go_enter Tryd.func57, Tryd.ntmps57
      go_wp2_with fail
      go_ret
      exact ⟨rfl, rfl⟩
    · rw [if_neg h2]
      exact CHECKROWS_ok A A' n c c' a r (by omega) (by omega) w hx hy
/-- a row of n values, of which k are filled in -/
def fillV (n k : Nat) (f : Nat → Value) (z : Value) : List Value := (List.range n).map fun j => if j < k then f j else z
theorem fillV_set {n k : Nat} {f : Nat → Value} {z : Value} (hk : k < n) : (fillV n k f z).set k (f k) = fillV n (k + 1) f z := by
  apply List.ext_getElem?
  intro j
  unfold fillV
  by_cases hj : j < n
  · by_cases hjk : k = j
    · subst hjk
      rw [List.getElem?_set_self (by simpa using hk)]
      simp [hk]
    · rw [List.getElem?_set_ne hjk]
      simp only [List.getElem?_map, List.getElem?_range hj, Option.map_some]
      by_cases h1 : j < k
      · rw [if_pos h1, if_pos (by omega)]
      · rw [if_neg h1, if_neg (by omega)]
  · rw [List.getElem?_eq_none (by simp; omega), List.getElem?_eq_none (by simp; omega)]
theorem fillV_zero {n : Nat} {f : Nat → Value} {z : Value} : List.replicate n z = fillV n 0 f z := by
  apply List.ext_getElem?
  intro j
  unfold fillV
  by_cases hj : j < n
  · simp [hj]
  · simp [hj]
theorem fillV_at {n j : Nat} {f : Nat → Value} {z : Value} (hj : j < n) : (fillV n n f z)[j]? = some (f j) := by
  unfold fillV
  simp [hj]
/-- the rows that CheckTempo fills -/
structure FillR (w : World) (B gi gb n k : Nat) (fa : Nat → Int) (fr : Nat → Bool) : Prop where
  ints : w.ownsRow B 3 1 (.slice (some ⟨gi, 0, none⟩) n n) n (fillV n k (fun j => .int .i64 (fa j)) (.int .i64 0))
  bools : w.ownsRow B 4 1 (.slice (some ⟨gb, 0, none⟩) n n) n (fillV n k (fun j => .bool (fr j)) (.bool false))
theorem FillR.below {w w' : World} {B gi gb n k : Nat} {fa : Nat → Int} {fr : Nat → Bool} (h : FillR w B gi gb n k fa fr) (hb : Below w.heap.size w w') : FillR w' B gi gb n k fa fr :=
  ⟨own_below h.ints hb, own_below h.bools hb⟩
theorem FillR.start {w : World} {B n : Nat} {fa : Nat → Int} {fr : Nat → Bool} (hB : B ≤ w.heap.size) (hn : n ≤ maxLen) :
    FillR ((w.alloc (.cells (madeCells #[.int .i64 0] n) 3)).alloc (.cells (madeCells #[.bool false] n) 4)) B w.heap.size (w.heap.size + 1) n 0 fa fr := by
  have h1 := World.ownsRow_lit (base := B) (e := 3) (size := 1) w (madeCells #[.int .i64 0] n) n hB hn (by simp [size_madeCells])
  have h2 := World.ownsRow_lit (base := B) (e := 4) (size := 1) (w.alloc (.cells (madeCells #[.int .i64 0] n) 3)) (madeCells #[.bool false] n) n (by simp; omega) hn (by simp [size_madeCells])
  rw [toList_madeCells_one, fillV_zero (f := fun j => .int .i64 (fa j))] at h1
  rw [toList_madeCells_one, fillV_zero (f := fun j => .bool (fr j))] at h2
  refine ⟨h1.alloc _, ?_⟩
  rw [World.size_alloc] at h2
  exact h2
theorem FillR.start2 {w : World} {B n : Nat} {fa : Nat → Int} {fr : Nat → Bool} (hB : B ≤ w.heap.size) (hn : n ≤ maxLen) :
    FillR ((w.alloc (.cells (madeCells #[.bool false] n) 4)).alloc (.cells (madeCells #[.int .i64 0] n) 3)) B (w.heap.size + 1) w.heap.size n 0 fa fr := by
  have h1 := World.ownsRow_lit (base := B) (e := 4) (size := 1) w (madeCells #[.bool false] n) n hB hn (by simp [size_madeCells])
  have h2 := World.ownsRow_lit (base := B) (e := 3) (size := 1) (w.alloc (.cells (madeCells #[.bool false] n) 4)) (madeCells #[.int .i64 0] n) n (by simp; omega) hn (by simp [size_madeCells])
  rw [toList_madeCells_one, fillV_zero (f := fun j => .bool (fr j))] at h1
  rw [toList_madeCells_one, fillV_zero (f := fun j => .int .i64 (fa j))] at h2
  rw [World.size_alloc] at h2
  exact ⟨h2, h1.alloc _⟩
theorem FillR.next {w : World} {B gi gb n k : Nat} {fa : Nat → Int} {fr : Nat → Bool} (h : FillR w B gi gb n k fa fr) (hk : k < n) :
    FillR ((w.setCell ⟨gi, k, none⟩ (.int .i64 (fa k))).setCell ⟨gb, k, none⟩ (.bool (fr k))) B gi gb n (k + 1) fa fr ∧ B ≤ gi ∧ B ≤ gb := by
  obtain ⟨h1, g1⟩ := h.ints.stored k (.int .i64 (fa k))
  rw [fillV_set hk] at h1
  have hne := own_ne h.ints h.bools (by decide)
  have hne' := own_ne h.bools h.ints (by decide)
  have h2 := h.bools.kept g1 (by rcases hne' with h | h; simp [Value.ownBlock] at h; exact .inr h)
  obtain ⟨h3, g3⟩ := h2.stored k (.bool (fr k))
  rw [fillV_set hk] at h3
  exact ⟨⟨h1.kept g3 (by rcases hne with h | h; simp [Value.ownBlock] at h; exact .inr h), h3⟩, (own_lt h.ints rfl).1, (own_lt h.bools rfl).1⟩
theorem FillR.done {w : World} {B gi gb n : Nat} {fa : Nat → Int} {fr : Nat → Bool} (h : FillR w B gi gb n n fa fr) :
    VsAt w w.heap.size (some ⟨gi, 0, none⟩) n (fun k => .int .i64 (fa k)) ∧ VsAt w w.heap.size (some ⟨gb, 0, none⟩) n (fun k => .bool (fr k)) := by
  refine ⟨fun k hk => ⟨gi, 0, rfl, (own_lt h.ints rfl).2, ?_⟩, fun k hk => ⟨gb, 0, rfl, (own_lt h.bools rfl).2, ?_⟩⟩
  · rw [Nat.zero_add, h.ints.cellAt k (by omega), fillV_at hk]
  · rw [Nat.zero_add, h.bools.cellAt k (by omega), fillV_at hk]
theorem infoInt : (Tryd.prog.info? 3).map (fun i => (i.zero, i.size, i.bytes)) = some (some (.int .i64 0), 1, 8) := by kernel_rfl
theorem infoBool : (Tryd.prog.info? 4).map (fun i => (i.zero, i.size, i.bytes)) = some (some (.bool false), 1, 1) := by kernel_rfl
theorem mkIntsT (n : Nat) (hn : n ≤ 8796093022207) (W : World) : (Instr.makeSlice 41 (.int .i64 (n : Int)) (.int .i64 (n : Int))).run Tryd.prog W = .ok (.slice (some ⟨W.heap.size, 0, none⟩) n n) (W.alloc (.cells (madeCells #[.int .i64 0] n) 3)) :=
  run_make_row' 41 3 (.int .i64 0) 8 Tryd.underlying41 infoInt rfl .i64 .i64 n (by omega) (by omega) W
theorem mkBools (n : Nat) (hn : n ≤ 8796093022207) (W : World) : (Instr.makeSlice 96 (.int .i64 (n : Int)) (.int .i64 (n : Int))).run Tryd.prog W = .ok (.slice (some ⟨W.heap.size, 0, none⟩) n n) (W.alloc (.cells (madeCells #[.bool false] n) 4)) :=
  run_make_row' 96 4 (.bool false) 1 Tryd.underlying96 infoBool rfl .i64 .i64 n (by omega) (by omega) W
end Go.Proofs.YthgjgiccoobcgaaDoor

/- CheckTempo, walked. -/
set_option linter.unusedSimpArgs false
set_option linter.unusedVariables false
namespace Go.Proofs.YthgjgiccoobcgaaDoor
open Go.RowKit Go.Dw
def tAt (l : List Pr) (k : Nat) : Int := (prOf l k).1
def tOk (M : Int) (l : List Pr) (k : Nat) : Bool := decide (1 ≤ (prOf l k).2) && decide ((prOf l k).2 ≤ M)
def chkL (M : Int) (l : List Pr) : Int := chkRow (tAt l) (tOk M l) l.length
def chkT (l ms : List Pr) : Int := if chkL 60000000 l ≠ 0 then chkL 60000000 l else chkL 32 ms
theorem fillR_step {w : World} {B gi gb n k : Nat} {fa : Nat → Int} {fr : Nat → Bool} (h : FillR w B gi gb n k fa fr) (hk : k < n) :
    FillR ((w.setCell ⟨gi, k, none⟩ (.int .i64 (fa k))).setCell ⟨gb, k, none⟩ (.bool (fr k))) B gi gb n (k + 1) fa fr ∧
      (w.cell? ⟨gi, k, none⟩ = some (.int .i64 0) ∧ w.frozen? ⟨gi, k, none⟩ = false) ∧ (∀ u, (w.setCell ⟨gi, k, none⟩ u).cell? ⟨gb, k, none⟩ = some (.bool false) ∧ (w.setCell ⟨gi, k, none⟩ u).frozen? ⟨gb, k, none⟩ = false) ∧ B ≤ gi ∧ B ≤ gb := by
  have hd := h
  obtain ⟨h1, h2, h3⟩ := hd.next hk
  refine ⟨h1, ⟨?_, hd.ints.frozenAt k⟩, fun u => ?_, h2, h3⟩
  · rw [hd.ints.cellAt k (by omega)]; simp [fillV, hk]
  · obtain ⟨_, g1⟩ := hd.ints.stored k u
    have hne' := own_ne hd.bools hd.ints (by decide)
    have hb := hd.bools.kept g1 (by rcases hne' with h | h; simp [Value.ownBlock] at h; exact .inr h)
    refine ⟨?_, hb.frozenAt k⟩
    rw [hb.cellAt k (by omega)]; simp [fillV, hk]
set_option maxRecDepth 100000 in
set_option maxHeartbeats 8000000 in
theorem CHECKTEMPO_any (A A' : Option Addr) (n c n' c' : Nat) (l ms : List Pr) (hn : n ≤ 8796093022207) (hn' : n' ≤ 8796093022207) (w : World) (B : Nat) (hB : B ≤ w.heap.size) (hh : Hid (PrsAt w B A n l)) (hh' : Hid (PrsAt w B A' n' ms)) :
    Calls Tryd.prog 21 #[.agg #[.slice A n c, .slice A' n' c']] w fun e w' => e = .returned (.int .i64 (chkT l ms)) ∧ Below w.heap.size w w' := by
  have hl := Lib.hid hh.out.1
  have hl' := Lib.hid hh'.out.1
  have hmi := mkIntsT n hn
  have hmb := mkBools n hn
  go_enter Tryd.func21, Tryd.ntmps21
  go_wp2_with fail
  obtain ⟨w0, hw0⟩ : ∃ w0, w0 = w.alloc (.cells #[.slice A n c, .slice A' n' c'] 25) := ⟨_, rfl⟩
  have hs0 : w0.heap.size = w.heap.size + 1 := by rw [hw0]; simp
  have hF0 := FillR.start (w := w0) (B := w.heap.size + 1) (n := n) (fa := tAt l) (fr := tOk 60000000 l) (by omega) (by simp [maxLen]; omega)
  have hb0 : Below w.heap.size w w0 := by rw [hw0]; exact (Below.refl _ w).alloc (Nat.le_refl _) _
  have hc0 : w0.cell? ⟨w.heap.size, 0, none⟩ = some (.slice A n c) := by rw [hw0]; simp [go_sem]
  have hc1 : w0.cell? ⟨w.heap.size, 1, none⟩ = some (.slice A' n' c') := by rw [hw0]; simp [go_sem]
  have hx0 : Below (w.heap.size + 1) w0 ((w0.alloc (.cells (madeCells #[.int .i64 0] n) 3)).alloc (.cells (madeCells #[.bool false] n) 4)) := ((Below.refl _ w0).alloc (by omega) _).alloc (by simp; omega) _
  rw [← hw0]
  obtain ⟨W, hW⟩ : ∃ W, W = ((w0.alloc (.cells (madeCells #[.int .i64 0] n) 3)).alloc (.cells (madeCells #[.bool false] n) 4)) := ⟨_, rfl⟩
  rw [← hW] at hF0 hx0 ⊢
  rw [show w.heap.size + 1 = w0.heap.size from hs0.symm] at hF0
  rw [show w.heap.size + 1 + 1 = w0.heap.size + 1 by omega, show w.heap.size + 1 = w0.heap.size from hs0.symm]
  obtain ⟨gi, hgi⟩ : ∃ gi, gi = w0.heap.size := ⟨_, rfl⟩
  obtain ⟨gx, hgx⟩ : ∃ gx, gx = w.heap.size := ⟨_, rfl⟩
  rw [← hgi] at hF0 ⊢
  obtain ⟨gb, hgb⟩ : ∃ gb, gb = gi + 1 := ⟨_, rfl⟩
  rw [← hgb] at hF0 ⊢
  rw [← hgx] at hc0 hc1 ⊢
  have HF0 := Lib.hid hF0
  have HBW : Hid (Below gx w W) := by show Below _ _ _; rw [hgx]; exact hb0.trans (hx0.mono (by omega))
  have HC0 : Hid (W.cell? ⟨gx, 0, none⟩ = some (.slice A n c) ∧ W.cell? ⟨gx, 1, none⟩ = some (.slice A' n' c')) :=
    ⟨(hx0.cell (p := ⟨gx, 0, none⟩) (by dsimp only; omega)).trans hc0, (hx0.cell (p := ⟨gx, 1, none⟩) (by dsimp only; omega)).trans hc1⟩
  have HSW : Hid (gx + 1 ≤ W.heap.size) := by have := hx0.size; show _ ≤ _; omega
  have hgi' : gi = gx + 1 := by omega
  have HGX := Lib.hid hgx
  have HF1 : Hid (FillR W (gx + 1) gi gb n 0 (tAt l) (tOk 60000000 l)) := by rw [← hgi']; exact HF0.out
  clear hF0 hb0 hc0 hc1 hx0 hW hgb hs0 hw0 hgi' hmi hmb hgx HF0 hgi
  clear w0
  have HPL : Hid (PrsAt W (gx + 1) A n l) := (hh.out.below HBW.out (by rw [HGX.out]; exact hB)).mono (by have := HGX.out; omega)
  go_loopw [21] (fun i wr => ∃ k : Nat, k ≤ n ∧ i = .int .i64 k ∧ Hid (FillR wr (gx + 1) gi gb n k (tAt l) (tOk 60000000 l)) ∧ Hid (Below (gx + 1) W wr)) (fun i _ => n - (intOf i).toNat)
  case atStart => exact ⟨0, Nat.zero_le _, rfl, HF1, Below.refl _ _⟩
  case round =>
    obtain ⟨k, hk, rfl, hF, hb⟩ := hrel
    have hsz : gx + 1 ≤ wr.heap.size := Nat.le_trans HSW.out hb.out.size
    by_cases hlt : k < n
    · clear HF1
      obtain ⟨bA, oA, rfl, hbA, k1, k2⟩ := (HPL.out.below hb.out (Nat.le_refl _)).2 k hlt
      have hA1 : tAt l k = (prOf l k).1 := rfl
      have hA2 : tOk 60000000 l k = (decide (1 ≤ (prOf l k).2) && decide ((prOf l k).2 ≤ 60000000)) := rfl
      have HN : Hid (∀ W1 : World, W1 = wr.alloc (.cells #[.int .i64 (prOf l k).1, .int .i64 (prOf l k).2] 98) → (FillR ((W1.setCell ⟨gi, k, none⟩ (.int .i64 (tAt l k))).setCell ⟨gb, k, none⟩ (.bool (tOk 60000000 l k))) (gx + 1) gi gb n (k + 1) (tAt l) (tOk 60000000 l) ∧
          (W1.cell? ⟨gi, k, none⟩ = some (.int .i64 0) ∧ W1.frozen? ⟨gi, k, none⟩ = false) ∧ (∀ u, (W1.setCell ⟨gi, k, none⟩ u).cell? ⟨gb, k, none⟩ = some (.bool false) ∧ (W1.setCell ⟨gi, k, none⟩ u).frozen? ⟨gb, k, none⟩ = false) ∧ gx + 1 ≤ gi ∧ gx + 1 ≤ gb)) := fun W1 hW1 => by
        have h1 : FillR W1 (gx + 1) gi gb n k (tAt l) (tOk 60000000 l) := by rw [hW1]; exact hF.out.below ((Below.refl _ _).alloc (Nat.le_refl _) _)
        exact fillR_step h1 hlt
      rw [hA1, hA2] at HN
      clear hA1 hA2
      obtain ⟨p, hp⟩ : ∃ p, prOf l k = p := ⟨_, rfl⟩
      rw [hp] at k1 k2 HN
      clear hp
      obtain ⟨a, m⟩ := p
      dsimp only at k1 k2 HN
      have hk0 : (0 : Int) ≤ (k : Int) := by omega
      have hkn : (k : Int) < (n : Int) := by omega
      go_upto_region 6 with (fail)
      obtain ⟨X, hX⟩ : ∃ X, X = wr.alloc (.cells #[.int .i64 a, .int .i64 m] 98) := ⟨_, rfl⟩
      obtain ⟨gy, hgy⟩ : ∃ gy, gy = wr.heap.size := ⟨_, rfl⟩
      have hS : X.drew.cell? ⟨gy, 0, none⟩ = some (.int .i64 a) ∧ X.drew.cell? ⟨gy, 1, none⟩ = some (.int .i64 m) := by rw [hX, hgy]; simp [go_sem]
      have hS0 : X.cell? ⟨gy, 0, none⟩ = some (.int .i64 a) ∧ X.cell? ⟨gy, 1, none⟩ = some (.int .i64 m) := hS
      have hgi : gi < gy := by rw [hgy]; exact (own_lt hF.out.ints rfl).2
      have hgb : gb < gy := by rw [hgy]; exact (own_lt hF.out.bools rfl).2
      have HX := HN.out X hX
      have HXB2 : Hid (Below (gx + 1) W X) := by show Below _ _ _; rw [hX]; exact hb.out.alloc hsz _
      rw [← hX, ← hgy]
      clear HN hF hb hX hgy hbA k1 k2
      obtain ⟨hX1, ⟨hX2, hX3⟩, hX4, hX5, hX6⟩ := HX
      obtain ⟨hX7, hX8⟩ := hX4 (.int .i64 a)
      by_cases hm1 : 1 ≤ m
      · rw [show decide (1 ≤ m) = true by simp; omega, Bool.true_and] at hX1
        have HX1 := Lib.hid hX1
        clear hX1
        refine wp_region_text 16 (fun x => x.cell? ⟨gy, 0, none⟩ = some (.int .i64 a) ∧ x.cell? ⟨gy, 1, none⟩ = some (.int .i64 m)) (by kernel_rfl) (by kernel_rfl) ?_
        refine HT.take (i := 0) (oi := _) (v := ?_) rfl (by kernel_rfl) (by kernel_rfl) (by decide) (fun _ _ _ h => h) (Or.inl ⟨by rfl, ?_⟩) hS ?_
        rotate_left
        · intro wz
          go_simp
          try with_reducible rfl
        simp only [List.getElem_toArray, List.getElem_cons_succ, List.getElem_cons_zero, Act.put, List.setIfInBounds_toArray, List.set_cons_zero, List.set_cons_succ]
        refine HT.take (i := 1) (oi := _) (v := ?_) rfl (by kernel_rfl) (by kernel_rfl) (by decide) (fun _ _ _ h => h) (Or.inl ⟨by rfl, ?_⟩) hS ?_
        rotate_left
        · intro wz
          go_simp
          try with_reducible rfl
        simp only [List.getElem_toArray, List.getElem_cons_succ, List.getElem_cons_zero, Act.put, List.setIfInBounds_toArray, List.set_cons_zero, List.set_cons_succ]
        refine HT.take (i := 2) (oi := _) (v := ?_) rfl (by kernel_rfl) (by kernel_rfl) (by decide) (fun _ _ _ h => h) (Or.inl ⟨by rfl, ?_⟩) hS ?_
        rotate_left
        · intro wz
          go_simp
          try with_reducible rfl
        simp only [List.getElem_toArray, List.getElem_cons_succ, List.getElem_cons_zero, Act.put, List.setIfInBounds_toArray, List.set_cons_zero, List.set_cons_succ]
        refine HT.take (i := 3) (oi := _) (v := ?_) rfl (by kernel_rfl) (by kernel_rfl) (by decide) (fun _ _ _ h => h) (Or.inl ⟨by rfl, ?_⟩) hS ?_
        rotate_left
        · intro wz
          go_simp
          try with_reducible rfl
        simp only [List.getElem_toArray, List.getElem_cons_succ, List.getElem_cons_zero, Act.put, List.setIfInBounds_toArray, List.set_cons_zero, List.set_cons_succ]
        refine HT.take (i := 4) (oi := _) (v := ?_) rfl (by kernel_rfl) (by kernel_rfl) (by decide) (fun _ _ _ h => h) (Or.inl ⟨by rfl, ?_⟩) hS ?_
        rotate_left
        · intro wz
          go_simp
          try with_reducible rfl
        simp only [List.getElem_toArray, List.getElem_cons_succ, List.getElem_cons_zero, Act.put, List.setIfInBounds_toArray, List.set_cons_zero, List.set_cons_succ]
        refine HT.load (i := 5) (oi := _) (v := ?_) rfl (by kernel_rfl) (by kernel_rfl) (by decide) (fun _ _ _ h => h) (by kernel_rfl) (Or.inl ⟨by rfl, ?_⟩) hS ?_
        rotate_left
        · intro wz hwz
          try dsimp only at hwz
          go_simp
          try with_reducible rfl
        simp only [List.getElem_toArray, List.getElem_cons_succ, List.getElem_cons_zero, Act.put, List.setIfInBounds_toArray, List.set_cons_zero, List.set_cons_succ]
        refine HT.take (i := 6) (oi := _) (v := ?_) rfl (by kernel_rfl) (by kernel_rfl) (by decide) (fun _ _ _ h => h) (Or.inl ⟨by rfl, ?_⟩) hS ?_
        rotate_left
        · intro wz
          go_simp
          try with_reducible rfl
        simp only [List.getElem_toArray, List.getElem_cons_succ, List.getElem_cons_zero, Act.put, List.setIfInBounds_toArray, List.set_cons_zero, List.set_cons_succ]
        refine HT.load (i := 7) (oi := _) (v := ?_) rfl (by kernel_rfl) (by kernel_rfl) (by decide) (fun _ _ _ h => h) (by kernel_rfl) (Or.inl ⟨by rfl, ?_⟩) hS ?_
        rotate_left
        · intro wz hwz
          try dsimp only at hwz
          go_simp
          try with_reducible rfl
        simp only [List.getElem_toArray, List.getElem_cons_succ, List.getElem_cons_zero, Act.put, List.setIfInBounds_toArray, List.set_cons_zero, List.set_cons_succ]
        refine HT.take (i := 8) (oi := _) (v := ?_) rfl (by kernel_rfl) (by kernel_rfl) (by decide) (fun _ _ _ h => h) (Or.inl ⟨by rfl, ?_⟩) hS ?_
        rotate_left
        · intro wz
          go_simp
          try with_reducible rfl
        simp only [List.getElem_toArray, List.getElem_cons_succ, List.getElem_cons_zero, Act.put, List.setIfInBounds_toArray, List.set_cons_zero, List.set_cons_succ]
        refine HT.take (i := 9) (oi := _) (v := ?_) rfl (by kernel_rfl) (by kernel_rfl) (by decide) (fun _ _ _ h => h) (Or.inl ⟨by rfl, ?_⟩) hS ?_
        rotate_left
        · intro wz
          go_simp
          try with_reducible rfl
        simp only [List.getElem_toArray, List.getElem_cons_succ, List.getElem_cons_zero, Act.put, List.setIfInBounds_toArray, List.set_cons_zero, List.set_cons_succ]
        refine HT.take (i := 10) (oi := _) (v := ?_) rfl (by kernel_rfl) (by kernel_rfl) (by decide) (fun _ _ _ h => h) (Or.inl ⟨by rfl, ?_⟩) hS ?_
        rotate_left
        · intro wz
          go_simp
          try with_reducible rfl
        simp only [List.getElem_toArray, List.getElem_cons_succ, List.getElem_cons_zero, Act.put, List.setIfInBounds_toArray, List.set_cons_zero, List.set_cons_succ]
        refine HT.load (i := 11) (oi := _) (v := ?_) rfl (by kernel_rfl) (by kernel_rfl) (by decide) (fun _ _ _ h => h) (by kernel_rfl) (Or.inl ⟨by rfl, ?_⟩) hS ?_
        rotate_left
        · intro wz hwz
          try dsimp only at hwz
          go_simp
          try with_reducible rfl
        simp only [List.getElem_toArray, List.getElem_cons_succ, List.getElem_cons_zero, Act.put, List.setIfInBounds_toArray, List.set_cons_zero, List.set_cons_succ]
        refine HT.take (i := 12) (oi := _) (v := ?_) rfl (by kernel_rfl) (by kernel_rfl) (by decide) (fun _ _ _ h => h) (Or.inl ⟨by rfl, ?_⟩) hS ?_
        rotate_left
        · intro wz
          go_simp
          try with_reducible rfl
        simp only [List.getElem_toArray, List.getElem_cons_succ, List.getElem_cons_zero, Act.put, List.setIfInBounds_toArray, List.set_cons_zero, List.set_cons_succ]
        refine HT.take (i := 13) (oi := _) (v := ?_) rfl (by kernel_rfl) (by kernel_rfl) (by decide) (fun _ _ _ h => h) (Or.inl ⟨by rfl, ?_⟩) hS ?_
        rotate_left
        · intro wz
          go_simp
          try with_reducible rfl
        simp only [List.getElem_toArray, List.getElem_cons_succ, List.getElem_cons_zero, Act.put, List.setIfInBounds_toArray, List.set_cons_zero, List.set_cons_succ]
        refine HT.take (i := 14) (oi := _) (v := ?_) rfl (by kernel_rfl) (by kernel_rfl) (by decide) (fun _ _ _ h => h) (Or.inl ⟨by rfl, ?_⟩) hS ?_
        rotate_left
        · intro wz
          go_simp
          try with_reducible rfl
        simp only [List.getElem_toArray, List.getElem_cons_succ, List.getElem_cons_zero, Act.put, List.setIfInBounds_toArray, List.set_cons_zero, List.set_cons_succ]
        refine HT.one (i := 15) (o := _) rfl (by kernel_rfl) (by decide) (by rfl) ?_
        intro K hK
        go_simp
        refine hK.out _ _ ?_ ?_
        · skip
          simp only [World.cell?_drew]
          rw [World.cell?_setCell_other _ _ _ _ (by first | (simp; done) | (simp; omega)), World.cell?_setCell_other _ _ _ _ (by first | (simp; done) | (simp; omega))]
          exact hS0
        clear hK K
        try simp only [List.getElem_toArray, List.getElem_cons_succ, List.getElem_cons_zero, Act.put, List.setIfInBounds_toArray, List.set_cons_zero, List.set_cons_succ]
        have hS := hS0
        refine HT.done (by kernel_rfl) ?_
        clear hS
        simp only [List.drop_succ_cons, List.drop_zero]
        go_wp2_with fail
        go_roundw
        case rel =>
          refine ⟨k + 1, by omega, by go_num, ⟨HX1.out.ints, HX1.out.bools⟩, ?_⟩
          exact ((HXB2.out.setCell (by dsimp only; omega) _).setCell (by dsimp only; omega) _).drew
        case measure => simp [intOf]; omega
      · rw [show decide (1 ≤ m) = false by simp; omega, Bool.false_and] at hX1
        have HX1 := Lib.hid hX1
        clear hX1
        refine wp_region_text 16 (fun x => x.cell? ⟨gy, 0, none⟩ = some (.int .i64 a) ∧ x.cell? ⟨gy, 1, none⟩ = some (.int .i64 m)) (by kernel_rfl) (by kernel_rfl) ?_
        refine HT.take (i := 0) (oi := _) (v := ?_) rfl (by kernel_rfl) (by kernel_rfl) (by decide) (fun _ _ _ h => h) (Or.inl ⟨by rfl, ?_⟩) hS ?_
        rotate_left
        · intro wz
          go_simp
          try with_reducible rfl
        simp only [List.getElem_toArray, List.getElem_cons_succ, List.getElem_cons_zero, Act.put, List.setIfInBounds_toArray, List.set_cons_zero, List.set_cons_succ]
        refine HT.take (i := 1) (oi := _) (v := ?_) rfl (by kernel_rfl) (by kernel_rfl) (by decide) (fun _ _ _ h => h) (Or.inl ⟨by rfl, ?_⟩) hS ?_
        rotate_left
        · intro wz
          go_simp
          try with_reducible rfl
        simp only [List.getElem_toArray, List.getElem_cons_succ, List.getElem_cons_zero, Act.put, List.setIfInBounds_toArray, List.set_cons_zero, List.set_cons_succ]
        refine HT.take (i := 2) (oi := _) (v := ?_) rfl (by kernel_rfl) (by kernel_rfl) (by decide) (fun _ _ _ h => h) (Or.inl ⟨by rfl, ?_⟩) hS ?_
        rotate_left
        · intro wz
          go_simp
          try with_reducible rfl
        simp only [List.getElem_toArray, List.getElem_cons_succ, List.getElem_cons_zero, Act.put, List.setIfInBounds_toArray, List.set_cons_zero, List.set_cons_succ]
        refine HT.take (i := 3) (oi := _) (v := ?_) rfl (by kernel_rfl) (by kernel_rfl) (by decide) (fun _ _ _ h => h) (Or.inl ⟨by rfl, ?_⟩) hS ?_
        rotate_left
        · intro wz
          go_simp
          try with_reducible rfl
        simp only [List.getElem_toArray, List.getElem_cons_succ, List.getElem_cons_zero, Act.put, List.setIfInBounds_toArray, List.set_cons_zero, List.set_cons_succ]
        refine HT.take (i := 4) (oi := _) (v := ?_) rfl (by kernel_rfl) (by kernel_rfl) (by decide) (fun _ _ _ h => h) (Or.inl ⟨by rfl, ?_⟩) hS ?_
        rotate_left
        · intro wz
          go_simp
          try with_reducible rfl
        simp only [List.getElem_toArray, List.getElem_cons_succ, List.getElem_cons_zero, Act.put, List.setIfInBounds_toArray, List.set_cons_zero, List.set_cons_succ]
        refine HT.load (i := 5) (oi := _) (v := ?_) rfl (by kernel_rfl) (by kernel_rfl) (by decide) (fun _ _ _ h => h) (by kernel_rfl) (Or.inl ⟨by rfl, ?_⟩) hS ?_
        rotate_left
        · intro wz hwz
          try dsimp only at hwz
          go_simp
          try with_reducible rfl
        simp only [List.getElem_toArray, List.getElem_cons_succ, List.getElem_cons_zero, Act.put, List.setIfInBounds_toArray, List.set_cons_zero, List.set_cons_succ]
        refine HT.take (i := 6) (oi := _) (v := ?_) rfl (by kernel_rfl) (by kernel_rfl) (by decide) (fun _ _ _ h => h) (Or.inl ⟨by rfl, ?_⟩) hS ?_
        rotate_left
        · intro wz
          go_simp
          try with_reducible rfl
        simp only [List.getElem_toArray, List.getElem_cons_succ, List.getElem_cons_zero, Act.put, List.setIfInBounds_toArray, List.set_cons_zero, List.set_cons_succ]
        refine HT.load (i := 7) (oi := _) (v := ?_) rfl (by kernel_rfl) (by kernel_rfl) (by decide) (fun _ _ _ h => h) (by kernel_rfl) (Or.inl ⟨by rfl, ?_⟩) hS ?_
        rotate_left
        · intro wz hwz
          try dsimp only at hwz
          go_simp
          try with_reducible rfl
        simp only [List.getElem_toArray, List.getElem_cons_succ, List.getElem_cons_zero, Act.put, List.setIfInBounds_toArray, List.set_cons_zero, List.set_cons_succ]
        refine HT.take (i := 8) (oi := _) (v := ?_) rfl (by kernel_rfl) (by kernel_rfl) (by decide) (fun _ _ _ h => h) (Or.inl ⟨by rfl, ?_⟩) hS ?_
        rotate_left
        · intro wz
          go_simp
          try with_reducible rfl
        simp only [List.getElem_toArray, List.getElem_cons_succ, List.getElem_cons_zero, Act.put, List.setIfInBounds_toArray, List.set_cons_zero, List.set_cons_succ]
        refine HT.take (i := 9) (oi := _) (v := ?_) rfl (by kernel_rfl) (by kernel_rfl) (by decide) (fun _ _ _ h => h) (Or.inl ⟨by rfl, ?_⟩) hS ?_
        rotate_left
        · intro wz
          go_simp
          try with_reducible rfl
        simp only [List.getElem_toArray, List.getElem_cons_succ, List.getElem_cons_zero, Act.put, List.setIfInBounds_toArray, List.set_cons_zero, List.set_cons_succ]
        refine HT.take (i := 10) (oi := _) (v := undef) rfl (by kernel_rfl) (by kernel_rfl) (by decide) (fun _ _ _ h => h) (Or.inr ⟨by rfl, rfl⟩) hS ?_
        simp only [List.getElem_toArray, List.getElem_cons_succ, List.getElem_cons_zero, Act.put, List.setIfInBounds_toArray, List.set_cons_zero, List.set_cons_succ]
        refine HT.take (i := 11) (oi := _) (v := undef) rfl (by kernel_rfl) (by kernel_rfl) (by decide) (fun _ _ _ h => h) (Or.inr ⟨by rfl, rfl⟩) hS ?_
        simp only [List.getElem_toArray, List.getElem_cons_succ, List.getElem_cons_zero, Act.put, List.setIfInBounds_toArray, List.set_cons_zero, List.set_cons_succ]
        refine HT.take (i := 12) (oi := _) (v := undef) rfl (by kernel_rfl) (by kernel_rfl) (by decide) (fun _ _ _ h => h) (Or.inr ⟨by rfl, rfl⟩) hS ?_
        simp only [List.getElem_toArray, List.getElem_cons_succ, List.getElem_cons_zero, Act.put, List.setIfInBounds_toArray, List.set_cons_zero, List.set_cons_succ]
        refine HT.take (i := 13) (oi := _) (v := ?_) rfl (by kernel_rfl) (by kernel_rfl) (by decide) (fun _ _ _ h => h) (Or.inl ⟨by rfl, ?_⟩) hS ?_
        rotate_left
        · intro wz
          go_simp
          try with_reducible rfl
        simp only [List.getElem_toArray, List.getElem_cons_succ, List.getElem_cons_zero, Act.put, List.setIfInBounds_toArray, List.set_cons_zero, List.set_cons_succ]
        refine HT.take (i := 14) (oi := _) (v := ?_) rfl (by kernel_rfl) (by kernel_rfl) (by decide) (fun _ _ _ h => h) (Or.inl ⟨by rfl, ?_⟩) hS ?_
        rotate_left
        · intro wz
          go_simp
          try with_reducible rfl
        simp only [List.getElem_toArray, List.getElem_cons_succ, List.getElem_cons_zero, Act.put, List.setIfInBounds_toArray, List.set_cons_zero, List.set_cons_succ]
        refine HT.one (i := 15) (o := _) rfl (by kernel_rfl) (by decide) (by rfl) ?_
        intro K hK
        go_simp
        refine hK.out _ _ ?_ ?_
        · skip
          simp only [World.cell?_drew]
          rw [World.cell?_setCell_other _ _ _ _ (by first | (simp; done) | (simp; omega)), World.cell?_setCell_other _ _ _ _ (by first | (simp; done) | (simp; omega))]
          exact hS0
        clear hK K
        try simp only [List.getElem_toArray, List.getElem_cons_succ, List.getElem_cons_zero, Act.put, List.setIfInBounds_toArray, List.set_cons_zero, List.set_cons_succ]
        have hS := hS0
        refine HT.done (by kernel_rfl) ?_
        clear hS
        simp only [List.drop_succ_cons, List.drop_zero]
        go_wp2_with fail
        go_roundw
        case rel =>
          refine ⟨k + 1, by omega, by go_num, ⟨HX1.out.ints, HX1.out.bools⟩, ?_⟩
          exact ((HXB2.out.setCell (by dsimp only; omega) _).setCell (by dsimp only; omega) _).drew
        case measure => simp [intOf]; omega
    · obtain rfl : k = n := by omega
      obtain ⟨hd1, hd2⟩ := hF.out.done
      have HD1 := Lib.hid hd1
      have HD2 := Lib.hid hd2
      clear hd1 hd2 hF
      obtain ⟨q, hq⟩ : ∃ q, chkRow (tAt l) (tOk 60000000 l) k = q := ⟨_, rfl⟩
      have HQ := Lib.hid hq
      have HQ2 : Hid (chkL 60000000 l = q) := by show _ = _; unfold chkL; rw [hl.out]; exact hq
      clear hq
      by_cases hq0 : q = 0
      · subst hq0
        have hc1 : wr.cell? ⟨gx, 1, none⟩ = some (.slice A' n' c') := (hb.out.cell (p := ⟨gx, 1, none⟩) (by dsimp only; omega)).trans HC0.out.2
        have hsW := hsz
        have hmi := mkIntsT n' hn'
        have hmb := mkBools n' hn'
        have HSa := Lib.hid (FillR.start (w := wr) (B := gx + 1) (n := n') (fa := tAt ms) (fr := tOk 32 ms) hsz (by simp [maxLen]; omega))
        have HSb := Lib.hid (FillR.start2 (w := wr) (B := gx + 1) (n := n') (fa := tAt ms) (fr := tOk 32 ms) hsz (by simp [maxLen]; omega))
        go_upto_region 11 with (go_at_call 57; refine (CHECKROWS_any _ _ _ _ _ (tAt l) (tOk 60000000 l) _ HD1 HD2).mono ?_; rintro e w1 ⟨rfl, rfl⟩; rw [HQ.out])
        go_cut [3, 4] from 49 (fun a3 a4 wx => ∃ gi gb, a3 = .slice (some ⟨gi, 0, none⟩) n' n' ∧ a4 = .slice (some ⟨gb, 0, none⟩) n' n' ∧ Hid (FillR wx (gx + 1) gi gb n' 0 (tAt ms) (tOk 32 ms)) ∧ Hid (Below (gx + 1) wr wx))
        case first =>
          go_region_held3 (fun w' => Below (gx + 1) wr w' ∧ ∀ z : Addr, z.block < gx + 1 → w'.cell? z = wr.cell? z)
            ((refine (fun h => ⟨h, pcell h⟩) ?_; repeat (first | assumption | exact Below.refl _ _ | (refine Below.drew ?_) | (refine Below.alloc ?_ (by first | omega | (simp; omega) | exact Nat.le_trans hsW (Below.size (by assumption)) | (simp only [World.size_drew, World.size_alloc]; exact Nat.le_trans hsW (Nat.le_succ_of_le (Below.size (by assumption))))) _) | (refine Below.setCell ?_ (by first | omega | (simp; omega) | exact Nat.le_trans hsW (Below.size (by assumption))) _))))
            (fail)
          all_goals (go_wp2_with fail; go_meet)
          all_goals first
            | exact ⟨_, _, rfl, rfl, ⟨HSa.out.ints, HSa.out.bools⟩, (‹Below (gx + 1) wr _ ∧ _›).1⟩
            | exact ⟨_, _, rfl, rfl, ⟨HSb.out.ints, HSb.out.bools⟩, (‹Below (gx + 1) wr _ ∧ _›).1⟩
        case rest =>
          clear HD1 HD2 HQ HF1
          obtain ⟨gi, gb, rfl, rfl, hFc, hbc⟩ := hcut
          clear hmi hmb hsW HSa HSb
          have hc2 : wc.cell? ⟨gx, 1, none⟩ = some (.slice A' n' c') := (hbc.out.cell (p := ⟨gx, 1, none⟩) (by dsimp only; omega)).trans hc1
          have HBc : Hid (Below w.heap.size w wc) := by
            show Below _ _ _
            rw [← HGX.out]
            exact HBW.out.trans ((hb.out.trans hbc.out).mono (by omega))
          have HSc : Hid (gx + 1 ≤ wc.heap.size) := Nat.le_trans hsz hbc.out.size
          have HPM : Hid (PrsAt wc (gx + 1) A' n' ms) := (hh'.out.below HBc.out hB).mono (by have := HGX.out; omega)
          clear hbc hb hc1 hsz
          go_wp2_with fail
          clear hc2 HC0 HPL HSW hh hl HBW hk hlt
          go_loopw [60] (fun i wr => ∃ k : Nat, k ≤ n' ∧ i = .int .i64 k ∧ Hid (FillR wr (gx + 1) gi gb n' k (tAt ms) (tOk 32 ms)) ∧ Hid (Below (gx + 1) wc wr)) (fun i _ => n' - (intOf i).toNat)
          case atStart => exact ⟨0, Nat.zero_le _, rfl, hFc, Below.refl _ _⟩
          case round =>
            obtain ⟨k, hk, rfl, hF, hb⟩ := hrel
            have hsz : gx + 1 ≤ wr.heap.size := Nat.le_trans HSc.out hb.out.size
            by_cases hlt : k < n'
            · clear hFc
              obtain ⟨bA, oA, rfl, hbA, k1, k2⟩ := (HPM.out.below hb.out (Nat.le_refl _)).2 k hlt
              have hA1 : tAt ms k = (prOf ms k).1 := rfl
              have hA2 : tOk 32 ms k = (decide (1 ≤ (prOf ms k).2) && decide ((prOf ms k).2 ≤ 32)) := rfl
              have HN : Hid (∀ W1 : World, W1 = wr.alloc (.cells #[.int .i64 (prOf ms k).1, .int .i64 (prOf ms k).2] 55) → (FillR ((W1.setCell ⟨gi, k, none⟩ (.int .i64 (tAt ms k))).setCell ⟨gb, k, none⟩ (.bool (tOk 32 ms k))) (gx + 1) gi gb n' (k + 1) (tAt ms) (tOk 32 ms) ∧
                  (W1.cell? ⟨gi, k, none⟩ = some (.int .i64 0) ∧ W1.frozen? ⟨gi, k, none⟩ = false) ∧ (∀ u, (W1.setCell ⟨gi, k, none⟩ u).cell? ⟨gb, k, none⟩ = some (.bool false) ∧ (W1.setCell ⟨gi, k, none⟩ u).frozen? ⟨gb, k, none⟩ = false) ∧ gx + 1 ≤ gi ∧ gx + 1 ≤ gb)) := fun W1 hW1 => by
                have h1 : FillR W1 (gx + 1) gi gb n' k (tAt ms) (tOk 32 ms) := by rw [hW1]; exact hF.out.below ((Below.refl _ _).alloc (Nat.le_refl _) _)
                exact fillR_step h1 hlt
              rw [hA1, hA2] at HN
              clear hA1 hA2
              obtain ⟨p, hp⟩ : ∃ p, prOf ms k = p := ⟨_, rfl⟩
              rw [hp] at k1 k2 HN
              clear hp
              obtain ⟨a, m⟩ := p
              dsimp only at k1 k2 HN
              have hk0 : (0 : Int) ≤ (k : Int) := by omega
              have hkn : (k : Int) < (n' : Int) := by omega
              go_upto_region 15 with (fail)
              obtain ⟨X, hX⟩ : ∃ X, X = wr.alloc (.cells #[.int .i64 a, .int .i64 m] 55) := ⟨_, rfl⟩
              obtain ⟨gy, hgy⟩ : ∃ gy, gy = wr.heap.size := ⟨_, rfl⟩
              have hS : X.drew.cell? ⟨gy, 0, none⟩ = some (.int .i64 a) ∧ X.drew.cell? ⟨gy, 1, none⟩ = some (.int .i64 m) := by rw [hX, hgy]; simp [go_sem]
              have hS0 : X.cell? ⟨gy, 0, none⟩ = some (.int .i64 a) ∧ X.cell? ⟨gy, 1, none⟩ = some (.int .i64 m) := hS
              have hgi : gi < gy := by rw [hgy]; exact (own_lt hF.out.ints rfl).2
              have hgb : gb < gy := by rw [hgy]; exact (own_lt hF.out.bools rfl).2
              have HX := HN.out X hX
              have HXB2 : Hid (Below (gx + 1) wc X) := by show Below _ _ _; rw [hX]; exact hb.out.alloc hsz _
              rw [← hX, ← hgy]
              clear HN hF hb hX hgy hbA k1 k2
              obtain ⟨hX1, ⟨hX2, hX3⟩, hX4, hX5, hX6⟩ := HX
              obtain ⟨hX7, hX8⟩ := hX4 (.int .i64 a)
              by_cases hm1 : 1 ≤ m
              · rw [show decide (1 ≤ m) = true by simp; omega, Bool.true_and] at hX1
                have HX1 := Lib.hid hX1
                clear hX1
                refine wp_region_text 16 (fun x => x.cell? ⟨gy, 0, none⟩ = some (.int .i64 a) ∧ x.cell? ⟨gy, 1, none⟩ = some (.int .i64 m)) (by kernel_rfl) (by kernel_rfl) ?_
                refine HT.take (i := 0) (oi := _) (v := ?_) rfl (by kernel_rfl) (by kernel_rfl) (by decide) (fun _ _ _ h => h) (Or.inl ⟨by rfl, ?_⟩) hS ?_
                rotate_left
                · intro wz
                  go_simp
                  try with_reducible rfl
                simp only [List.getElem_toArray, List.getElem_cons_succ, List.getElem_cons_zero, Act.put, List.setIfInBounds_toArray, List.set_cons_zero, List.set_cons_succ]
                refine HT.take (i := 1) (oi := _) (v := ?_) rfl (by kernel_rfl) (by kernel_rfl) (by decide) (fun _ _ _ h => h) (Or.inl ⟨by rfl, ?_⟩) hS ?_
                rotate_left
                · intro wz
                  go_simp
                  try with_reducible rfl
                simp only [List.getElem_toArray, List.getElem_cons_succ, List.getElem_cons_zero, Act.put, List.setIfInBounds_toArray, List.set_cons_zero, List.set_cons_succ]
                refine HT.take (i := 2) (oi := _) (v := ?_) rfl (by kernel_rfl) (by kernel_rfl) (by decide) (fun _ _ _ h => h) (Or.inl ⟨by rfl, ?_⟩) hS ?_
                rotate_left
                · intro wz
                  go_simp
                  try with_reducible rfl
                simp only [List.getElem_toArray, List.getElem_cons_succ, List.getElem_cons_zero, Act.put, List.setIfInBounds_toArray, List.set_cons_zero, List.set_cons_succ]
                refine HT.take (i := 3) (oi := _) (v := ?_) rfl (by kernel_rfl) (by kernel_rfl) (by decide) (fun _ _ _ h => h) (Or.inl ⟨by rfl, ?_⟩) hS ?_
                rotate_left
                · intro wz
                  go_simp
                  try with_reducible rfl
                simp only [List.getElem_toArray, List.getElem_cons_succ, List.getElem_cons_zero, Act.put, List.setIfInBounds_toArray, List.set_cons_zero, List.set_cons_succ]
                refine HT.take (i := 4) (oi := _) (v := ?_) rfl (by kernel_rfl) (by kernel_rfl) (by decide) (fun _ _ _ h => h) (Or.inl ⟨by rfl, ?_⟩) hS ?_
                rotate_left
                · intro wz
                  go_simp
                  try with_reducible rfl
                simp only [List.getElem_toArray, List.getElem_cons_succ, List.getElem_cons_zero, Act.put, List.setIfInBounds_toArray, List.set_cons_zero, List.set_cons_succ]
                refine HT.load (i := 5) (oi := _) (v := ?_) rfl (by kernel_rfl) (by kernel_rfl) (by decide) (fun _ _ _ h => h) (by kernel_rfl) (Or.inl ⟨by rfl, ?_⟩) hS ?_
                rotate_left
                · intro wz hwz
                  try dsimp only at hwz
                  go_simp
                  try with_reducible rfl
                simp only [List.getElem_toArray, List.getElem_cons_succ, List.getElem_cons_zero, Act.put, List.setIfInBounds_toArray, List.set_cons_zero, List.set_cons_succ]
                refine HT.take (i := 6) (oi := _) (v := ?_) rfl (by kernel_rfl) (by kernel_rfl) (by decide) (fun _ _ _ h => h) (Or.inl ⟨by rfl, ?_⟩) hS ?_
                rotate_left
                · intro wz
                  go_simp
                  try with_reducible rfl
                simp only [List.getElem_toArray, List.getElem_cons_succ, List.getElem_cons_zero, Act.put, List.setIfInBounds_toArray, List.set_cons_zero, List.set_cons_succ]
                refine HT.load (i := 7) (oi := _) (v := ?_) rfl (by kernel_rfl) (by kernel_rfl) (by decide) (fun _ _ _ h => h) (by kernel_rfl) (Or.inl ⟨by rfl, ?_⟩) hS ?_
                rotate_left
                · intro wz hwz
                  try dsimp only at hwz
                  go_simp
                  try with_reducible rfl
                simp only [List.getElem_toArray, List.getElem_cons_succ, List.getElem_cons_zero, Act.put, List.setIfInBounds_toArray, List.set_cons_zero, List.set_cons_succ]
                refine HT.take (i := 8) (oi := _) (v := ?_) rfl (by kernel_rfl) (by kernel_rfl) (by decide) (fun _ _ _ h => h) (Or.inl ⟨by rfl, ?_⟩) hS ?_
                rotate_left
                · intro wz
                  go_simp
                  try with_reducible rfl
                simp only [List.getElem_toArray, List.getElem_cons_succ, List.getElem_cons_zero, Act.put, List.setIfInBounds_toArray, List.set_cons_zero, List.set_cons_succ]
                refine HT.take (i := 9) (oi := _) (v := ?_) rfl (by kernel_rfl) (by kernel_rfl) (by decide) (fun _ _ _ h => h) (Or.inl ⟨by rfl, ?_⟩) hS ?_
                rotate_left
                · intro wz
                  go_simp
                  try with_reducible rfl
                simp only [List.getElem_toArray, List.getElem_cons_succ, List.getElem_cons_zero, Act.put, List.setIfInBounds_toArray, List.set_cons_zero, List.set_cons_succ]
                refine HT.take (i := 10) (oi := _) (v := ?_) rfl (by kernel_rfl) (by kernel_rfl) (by decide) (fun _ _ _ h => h) (Or.inl ⟨by rfl, ?_⟩) hS ?_
                rotate_left
                · intro wz
                  go_simp
                  try with_reducible rfl
                simp only [List.getElem_toArray, List.getElem_cons_succ, List.getElem_cons_zero, Act.put, List.setIfInBounds_toArray, List.set_cons_zero, List.set_cons_succ]
                refine HT.load (i := 11) (oi := _) (v := ?_) rfl (by kernel_rfl) (by kernel_rfl) (by decide) (fun _ _ _ h => h) (by kernel_rfl) (Or.inl ⟨by rfl, ?_⟩) hS ?_
                rotate_left
                · intro wz hwz
                  try dsimp only at hwz
                  go_simp
                  try with_reducible rfl
                simp only [List.getElem_toArray, List.getElem_cons_succ, List.getElem_cons_zero, Act.put, List.setIfInBounds_toArray, List.set_cons_zero, List.set_cons_succ]
                refine HT.take (i := 12) (oi := _) (v := ?_) rfl (by kernel_rfl) (by kernel_rfl) (by decide) (fun _ _ _ h => h) (Or.inl ⟨by rfl, ?_⟩) hS ?_
                rotate_left
                · intro wz
                  go_simp
                  try with_reducible rfl
                simp only [List.getElem_toArray, List.getElem_cons_succ, List.getElem_cons_zero, Act.put, List.setIfInBounds_toArray, List.set_cons_zero, List.set_cons_succ]
                refine HT.take (i := 13) (oi := _) (v := ?_) rfl (by kernel_rfl) (by kernel_rfl) (by decide) (fun _ _ _ h => h) (Or.inl ⟨by rfl, ?_⟩) hS ?_
                rotate_left
                · intro wz
                  go_simp
                  try with_reducible rfl
                simp only [List.getElem_toArray, List.getElem_cons_succ, List.getElem_cons_zero, Act.put, List.setIfInBounds_toArray, List.set_cons_zero, List.set_cons_succ]
                refine HT.take (i := 14) (oi := _) (v := ?_) rfl (by kernel_rfl) (by kernel_rfl) (by decide) (fun _ _ _ h => h) (Or.inl ⟨by rfl, ?_⟩) hS ?_
                rotate_left
                · intro wz
                  go_simp
                  try with_reducible rfl
                simp only [List.getElem_toArray, List.getElem_cons_succ, List.getElem_cons_zero, Act.put, List.setIfInBounds_toArray, List.set_cons_zero, List.set_cons_succ]
                refine HT.one (i := 15) (o := _) rfl (by kernel_rfl) (by decide) (by rfl) ?_
                intro K hK
                go_simp
                refine hK.out _ _ ?_ ?_
                · skip
                  simp only [World.cell?_drew]
                  rw [World.cell?_setCell_other _ _ _ _ (by first | (simp; done) | (simp; omega)), World.cell?_setCell_other _ _ _ _ (by first | (simp; done) | (simp; omega))]
                  exact hS0
                clear hK K
                try simp only [List.getElem_toArray, List.getElem_cons_succ, List.getElem_cons_zero, Act.put, List.setIfInBounds_toArray, List.set_cons_zero, List.set_cons_succ]
                have hS := hS0
                refine HT.done (by kernel_rfl) ?_
                clear hS
                simp only [List.drop_succ_cons, List.drop_zero]
                go_wp2_with fail
                go_roundw
                case rel =>
                  refine ⟨k + 1, by omega, by go_num, ⟨HX1.out.ints, HX1.out.bools⟩, ?_⟩
                  exact ((HXB2.out.setCell (by dsimp only; omega) _).setCell (by dsimp only; omega) _).drew
                case measure => simp [intOf]; omega
              · rw [show decide (1 ≤ m) = false by simp; omega, Bool.false_and] at hX1
                have HX1 := Lib.hid hX1
                clear hX1
                refine wp_region_text 16 (fun x => x.cell? ⟨gy, 0, none⟩ = some (.int .i64 a) ∧ x.cell? ⟨gy, 1, none⟩ = some (.int .i64 m)) (by kernel_rfl) (by kernel_rfl) ?_
                refine HT.take (i := 0) (oi := _) (v := ?_) rfl (by kernel_rfl) (by kernel_rfl) (by decide) (fun _ _ _ h => h) (Or.inl ⟨by rfl, ?_⟩) hS ?_
                rotate_left
                · intro wz
                  go_simp
                  try with_reducible rfl
                simp only [List.getElem_toArray, List.getElem_cons_succ, List.getElem_cons_zero, Act.put, List.setIfInBounds_toArray, List.set_cons_zero, List.set_cons_succ]
                refine HT.take (i := 1) (oi := _) (v := ?_) rfl (by kernel_rfl) (by kernel_rfl) (by decide) (fun _ _ _ h => h) (Or.inl ⟨by rfl, ?_⟩) hS ?_
                rotate_left
                · intro wz
                  go_simp
                  try with_reducible rfl
                simp only [List.getElem_toArray, List.getElem_cons_succ, List.getElem_cons_zero, Act.put, List.setIfInBounds_toArray, List.set_cons_zero, List.set_cons_succ]
                refine HT.take (i := 2) (oi := _) (v := ?_) rfl (by kernel_rfl) (by kernel_rfl) (by decide) (fun _ _ _ h => h) (Or.inl ⟨by rfl, ?_⟩) hS ?_
                rotate_left
                · intro wz
                  go_simp
                  try with_reducible rfl
                simp only [List.getElem_toArray, List.getElem_cons_succ, List.getElem_cons_zero, Act.put, List.setIfInBounds_toArray, List.set_cons_zero, List.set_cons_succ]
                refine HT.take (i := 3) (oi := _) (v := ?_) rfl (by kernel_rfl) (by kernel_rfl) (by decide) (fun _ _ _ h => h) (Or.inl ⟨by rfl, ?_⟩) hS ?_
                rotate_left
                · intro wz
                  go_simp
                  try with_reducible rfl
                simp only [List.getElem_toArray, List.getElem_cons_succ, List.getElem_cons_zero, Act.put, List.setIfInBounds_toArray, List.set_cons_zero, List.set_cons_succ]
                refine HT.take (i := 4) (oi := _) (v := ?_) rfl (by kernel_rfl) (by kernel_rfl) (by decide) (fun _ _ _ h => h) (Or.inl ⟨by rfl, ?_⟩) hS ?_
                rotate_left
                · intro wz
                  go_simp
                  try with_reducible rfl
                simp only [List.getElem_toArray, List.getElem_cons_succ, List.getElem_cons_zero, Act.put, List.setIfInBounds_toArray, List.set_cons_zero, List.set_cons_succ]
                refine HT.load (i := 5) (oi := _) (v := ?_) rfl (by kernel_rfl) (by kernel_rfl) (by decide) (fun _ _ _ h => h) (by kernel_rfl) (Or.inl ⟨by rfl, ?_⟩) hS ?_
                rotate_left
                · intro wz hwz
                  try dsimp only at hwz
                  go_simp
                  try with_reducible rfl
                simp only [List.getElem_toArray, List.getElem_cons_succ, List.getElem_cons_zero, Act.put, List.setIfInBounds_toArray, List.set_cons_zero, List.set_cons_succ]
                refine HT.take (i := 6) (oi := _) (v := ?_) rfl (by kernel_rfl) (by kernel_rfl) (by decide) (fun _ _ _ h => h) (Or.inl ⟨by rfl, ?_⟩) hS ?_
                rotate_left
                · intro wz
                  go_simp
                  try with_reducible rfl
                simp only [List.getElem_toArray, List.getElem_cons_succ, List.getElem_cons_zero, Act.put, List.setIfInBounds_toArray, List.set_cons_zero, List.set_cons_succ]
                refine HT.load (i := 7) (oi := _) (v := ?_) rfl (by kernel_rfl) (by kernel_rfl) (by decide) (fun _ _ _ h => h) (by kernel_rfl) (Or.inl ⟨by rfl, ?_⟩) hS ?_
                rotate_left
                · intro wz hwz
                  try dsimp only at hwz
                  go_simp
                  try with_reducible rfl
                simp only [List.getElem_toArray, List.getElem_cons_succ, List.getElem_cons_zero, Act.put, List.setIfInBounds_toArray, List.set_cons_zero, List.set_cons_succ]
                refine HT.take (i := 8) (oi := _) (v := ?_) rfl (by kernel_rfl) (by kernel_rfl) (by decide) (fun _ _ _ h => h) (Or.inl ⟨by rfl, ?_⟩) hS ?_
                rotate_left
                · intro wz
                  go_simp
                  try with_reducible rfl
                simp only [List.getElem_toArray, List.getElem_cons_succ, List.getElem_cons_zero, Act.put, List.setIfInBounds_toArray, List.set_cons_zero, List.set_cons_succ]
                refine HT.take (i := 9) (oi := _) (v := ?_) rfl (by kernel_rfl) (by kernel_rfl) (by decide) (fun _ _ _ h => h) (Or.inl ⟨by rfl, ?_⟩) hS ?_
                rotate_left
                · intro wz
                  go_simp
                  try with_reducible rfl
                simp only [List.getElem_toArray, List.getElem_cons_succ, List.getElem_cons_zero, Act.put, List.setIfInBounds_toArray, List.set_cons_zero, List.set_cons_succ]
                refine HT.take (i := 10) (oi := _) (v := undef) rfl (by kernel_rfl) (by kernel_rfl) (by decide) (fun _ _ _ h => h) (Or.inr ⟨by rfl, rfl⟩) hS ?_
                simp only [List.getElem_toArray, List.getElem_cons_succ, List.getElem_cons_zero, Act.put, List.setIfInBounds_toArray, List.set_cons_zero, List.set_cons_succ]
                refine HT.take (i := 11) (oi := _) (v := undef) rfl (by kernel_rfl) (by kernel_rfl) (by decide) (fun _ _ _ h => h) (Or.inr ⟨by rfl, rfl⟩) hS ?_
                simp only [List.getElem_toArray, List.getElem_cons_succ, List.getElem_cons_zero, Act.put, List.setIfInBounds_toArray, List.set_cons_zero, List.set_cons_succ]
                refine HT.take (i := 12) (oi := _) (v := undef) rfl (by kernel_rfl) (by kernel_rfl) (by decide) (fun _ _ _ h => h) (Or.inr ⟨by rfl, rfl⟩) hS ?_
                simp only [List.getElem_toArray, List.getElem_cons_succ, List.getElem_cons_zero, Act.put, List.setIfInBounds_toArray, List.set_cons_zero, List.set_cons_succ]
                refine HT.take (i := 13) (oi := _) (v := ?_) rfl (by kernel_rfl) (by kernel_rfl) (by decide) (fun _ _ _ h => h) (Or.inl ⟨by rfl, ?_⟩) hS ?_
                rotate_left
                · intro wz
                  go_simp
                  try with_reducible rfl
                simp only [List.getElem_toArray, List.getElem_cons_succ, List.getElem_cons_zero, Act.put, List.setIfInBounds_toArray, List.set_cons_zero, List.set_cons_succ]
                refine HT.take (i := 14) (oi := _) (v := ?_) rfl (by kernel_rfl) (by kernel_rfl) (by decide) (fun _ _ _ h => h) (Or.inl ⟨by rfl, ?_⟩) hS ?_
                rotate_left
                · intro wz
                  go_simp
                  try with_reducible rfl
                simp only [List.getElem_toArray, List.getElem_cons_succ, List.getElem_cons_zero, Act.put, List.setIfInBounds_toArray, List.set_cons_zero, List.set_cons_succ]
                refine HT.one (i := 15) (o := _) rfl (by kernel_rfl) (by decide) (by rfl) ?_
                intro K hK
                go_simp
                refine hK.out _ _ ?_ ?_
                · skip
                  simp only [World.cell?_drew]
                  rw [World.cell?_setCell_other _ _ _ _ (by first | (simp; done) | (simp; omega)), World.cell?_setCell_other _ _ _ _ (by first | (simp; done) | (simp; omega))]
                  exact hS0
                clear hK K
                try simp only [List.getElem_toArray, List.getElem_cons_succ, List.getElem_cons_zero, Act.put, List.setIfInBounds_toArray, List.set_cons_zero, List.set_cons_succ]
                have hS := hS0
                refine HT.done (by kernel_rfl) ?_
                clear hS
                simp only [List.drop_succ_cons, List.drop_zero]
                go_wp2_with fail
                go_roundw
                case rel =>
                  refine ⟨k + 1, by omega, by go_num, ⟨HX1.out.ints, HX1.out.bools⟩, ?_⟩
                  exact ((HXB2.out.setCell (by dsimp only; omega) _).setCell (by dsimp only; omega) _).drew
                case measure => simp [intOf]; omega
            · obtain rfl : k = n' := by omega
              obtain ⟨hd1, hd2⟩ := hF.out.done
              have HD1 := Lib.hid hd1
              have HD2 := Lib.hid hd2
              clear hd1 hd2 hF
              have HQ : Hid (chkRow (tAt ms) (tOk 32 ms) k = chkL 32 ms) := by show _ = _; unfold chkL; rw [hl'.out]
              go_wp2_with (go_at_call 57; refine (CHECKROWS_any _ _ _ _ _ (tAt ms) (tOk 32 ms) _ HD1 HD2).mono ?_; rintro e w1 ⟨rfl, rfl⟩; rw [HQ.out])
              go_ret
              exact ⟨by unfold chkT; rw [HQ2.out, if_neg (by simp)]; rfl, HBc.out.trans (hb.out.mono (by rw [HGX.out]; omega))⟩
      · have hqb : (q != 0) = true := by simpa using hq0
        go_wp2_with (go_at_call 57; refine (CHECKROWS_any _ _ _ _ _ (tAt l) (tOk 60000000 l) _ HD1 HD2).mono ?_; rintro e w1 ⟨rfl, rfl⟩; rw [HQ.out])
        go_ret
        refine ⟨by unfold chkT; rw [HQ2.out, if_pos hq0]; rfl, (show Below w.heap.size w W by rw [← HGX.out]; exact HBW.out).trans (hb.out.mono (by rw [HGX.out]; omega))⟩
end Go.Proofs.YthgjgiccoobcgaaDoor

/- SampleAt. -/
set_option linter.unusedSimpArgs false
set_option linter.unusedVariables false
namespace Go.Proofs.YthgjgiccoobcgaaDoor
open Go.RowKit Go.Dw
/-- rows that begin rightly are right tempos -/
theorem rowF_ok {M : Int} : ∀ (d : Nat) (l : List Pr) (k : Nat), l.length = k + d → rowF (tAt l) (tOk M l) d k = 0 →
    ∀ j, k ≤ j → j < l.length → (0 ≤ (prOf l j).1 ∧ (prOf l j).1 ≤ 1000000000) ∧ (1 ≤ (prOf l j).2 ∧ (prOf l j).2 ≤ M) ∧ (j = 0 → (prOf l j).1 = 0) ∧ (0 < j → (prOf l (j - 1)).1 < (prOf l j).1)
  | 0, l, k, hl, _, j, h1, h2 => by omega
  | d + 1, l, k, hl, h, j, h1, h2 => by
    unfold rowF at h
    by_cases hbad : tAt l k < 0 ∨ 1000000000 < tAt l k ∨ tOk M l k = false
    · rw [if_pos hbad] at h; cases h
    rw [if_neg hbad] at h
    by_cases hord : (k = 0 ∧ tAt l k ≠ 0) ∨ (0 < k ∧ tAt l k ≤ tAt l (k - 1))
    · rw [if_pos hord] at h; cases h
    rw [if_neg hord] at h
    by_cases hj : j = k
    · subst hj
      unfold tAt at hbad hord
      have h3 : tOk M l j = true := by
        cases e : tOk M l j with
        | true => rfl
        | false => exact absurd (.inr (.inr e)) hbad
      unfold tOk at h3
      simp only [Bool.and_eq_true, decide_eq_true_eq] at h3
      refine ⟨⟨by omega, by omega⟩, h3, fun h0 => ?_, fun h0 => ?_⟩
      · have := fun h => hord (.inl ⟨h0, h⟩)
        exact Classical.byContradiction this
      · have := fun h => hord (.inr ⟨h0, h⟩)
        omega
    · exact rowF_ok d l (k + 1) (by omega) h j (by omega) h2
theorem incT_of : ∀ (l : List Pr), (∀ j, j < l.length → (1 ≤ (prOf l j).2 ∧ (prOf l j).2 ≤ 60000000) ∧ (0 < j → (prOf l (j - 1)).1 < (prOf l j).1)) → incT l
  | [], _ => trivial
  | [p], h => (h 0 (by simp)).1
  | p :: q :: r, h => by
    refine ⟨(h 0 (by simp)).1, (h 1 (by simp)).2 (by omega), incT_of (q :: r) fun j hj => ?_⟩
    have h1 := h (j + 1) (by simp at hj ⊢; omega)
    refine ⟨h1.1, fun h0 => ?_⟩
    have h2 := h1.2 (by omega)
    have e : j + 1 - 1 = (j - 1) + 1 := by omega
    rw [e] at h2
    exact h2
theorem chk_len {M : Int} {l : List Pr} (h : chkL M l = 0) : 0 < l.length ∧ l.length ≤ 200 := by
  unfold chkL chkRow at h
  by_cases h0 : l.length = 0
  · rw [if_pos h0] at h; cases h
  rw [if_neg h0] at h
  by_cases h2 : 200 < l.length
  · rw [if_pos h2] at h; cases h
  omega
theorem chk_rows {M : Int} {l : List Pr} (h : chkL M l = 0) (j : Nat) (hj : j < l.length) :
    (0 ≤ (prOf l j).1 ∧ (prOf l j).1 ≤ 1000000000) ∧ (1 ≤ (prOf l j).2 ∧ (prOf l j).2 ≤ M) ∧ (j = 0 → (prOf l j).1 = 0) ∧ (0 < j → (prOf l (j - 1)).1 < (prOf l j).1) := by
  have hl := chk_len h
  unfold chkL chkRow at h
  rw [if_neg (by omega), if_neg (by omega)] at h
  exact rowF_ok _ l 0 (by omega) h j (Nat.zero_le _) hj
theorem okP_of {l : List Pr} (h : chkL 60000000 l = 0) : OkP l := by
  have hl := chk_len h
  refine ⟨incT_of l fun j hj => ⟨(chk_rows h j hj).2.1, (chk_rows h j hj).2.2.2⟩, fun p hp => ?_, hl.1, hl.2, (chk_rows h 0 hl.1).2.2.1 rfl⟩
  obtain ⟨j, hj, e⟩ := List.getElem_of_mem hp
  have h1 := (chk_rows h j hj).1
  have e2 : prOf l j = p := by simp [prOf, List.getD, List.getElem?_eq_getElem hj, e]
  rw [e2] at h1
  exact h1
theorem okP_chkT {l ms : List Pr} (h : chkT l ms = 0) : OkP l ∧ chkL 32 ms = 0 := by
  unfold chkT at h
  by_cases h0 : chkL 60000000 l = 0
  · rw [if_neg (by simpa using h0)] at h
    exact ⟨okP_of h0, h⟩
  · rw [if_pos h0] at h; exact absurd h h0
theorem mom_top {l : List Pr} (hok : OkP l) {t : Int} (ht0 : 0 ≤ t) (ht1 : t ≤ 1000000000) : 0 ≤ mom t l ∧ mom t l ≤ 60000000000000000 := by
  have h1 := hok.some
  have h2 := hok.first
  obtain ⟨p, r, e⟩ : ∃ p r, l = p :: r := by cases l with | nil => simp at h1 | cons p r => exact ⟨p, r, rfl⟩
  have h3 : p.1 = 0 := by rw [e] at h2; exact h2
  have hi := hok.inc
  rw [e] at hi ⊢
  have := mom_le hi (t := t) (by omega)
  rw [h3] at this
  omega
def badS (rate t T : Int) : Prop := ¬ (1 ≤ rate ∧ rate ≤ 1000000) ∨ t < 0 ∨ T < t
instance (rate t T : Int) : Decidable (badS rate t T) := by unfold badS; exact inferInstance
/-- SampleAt -/
def sampS (l ms : List Pr) (rate t : Int) : Int × Int :=
  if chkT l ms ≠ 0 then (0, chkT l ms) else if badS rate t 1000000000 then (0, 1) else
  if 10000000000000 < ceilB ((mom t l).toNat * rate.toNat) then (0, 1) else ((ceilB ((mom t l).toNat * rate.toNat) : Nat), 0)
theorem ISRATET_any (r : Int) (w : World) : Calls Tryd.prog 49 #[.int .i64 r] w fun e w' => e = .returned (.bool (decide (1 ≤ r) && decide (r ≤ 1000000))) ∧ w = w' := by
  by_cases h1 : 1 ≤ r
  · by_cases h2 : r ≤ 1000000
    · go_enter Tryd.func49, Tryd.ntmps49
      go_wp2_with fail
      go_ret
      exact ⟨by simp [h1, h2], rfl⟩
    · go_enter Tryd.func49, Tryd.ntmps49
      go_wp2_with fail
      go_ret
      exact ⟨by simp [h1, h2], rfl⟩
  · go_enter Tryd.func49, Tryd.ntmps49
    go_wp2_with fail
    go_ret
    exact ⟨by rw [show decide (1 ≤ r) = false by simpa using h1, Bool.false_and]; rfl, rfl⟩
end Go.Proofs.YthgjgiccoobcgaaDoor
