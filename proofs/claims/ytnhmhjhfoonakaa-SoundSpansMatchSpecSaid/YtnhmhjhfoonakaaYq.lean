/- moment, the sound of a map of tempos: what it reckons. -/
import Derived.Test.YtnhmhjhfoonakaaTickS
import Derived.Test.YtnhmhjhfoonakaaZa
import Derived.Test.YtnhmhjhfoonakaaMem
import Derived.Test.YtnhmhjhfoonakaaRegion2
import Derived.IntWalk
import Derived.Deep.Cut
import Derived.RegionTactic
import Derived.BigRegion
import Derived.OwnWalk
import Derived.Deep.OwnRows
import Derived.Laws.OwnMore
import Derived.Deep.RegionHeld3
import Derived.Deep.CutRange
set_option linter.unusedSimpArgs false
set_option linter.unusedVariables false
namespace Go.Proofs.Ytnhmhjhfoonakaa
open Go.RowKit Go.Dw
/-- tempos that are right -/
structure OkP (l : List Pr) : Prop where
  inc : incT l
  rng : ∀ p ∈ l, 0 ≤ p.1 ∧ p.1 ≤ 1000000000
  some : 0 < l.length
  few : l.length ≤ 200
  first : (prOf l 0).1 = 0
theorem incT_tail : ∀ {l : List Pr} {p : Pr}, incT (p :: l) → incT l
  | [], _, _ => trivial
  | _ :: _, _, h => h.2.2
theorem incT_drop : ∀ {l : List Pr} (k : Nat), incT l → incT (l.drop k)
  | _, 0, h => h
  | [], k + 1, h => h
  | p :: l, k + 1, h => incT_drop k (incT_tail h)
theorem mom_cons {t : Int} {p : Pr} {l : List Pr} (hl : 0 < l.length) : mom t (p :: l) = if min t (prOf l 0).1 ≤ p.1 then 0 else (min t (prOf l 0).1 - p.1) * p.2 + mom t l := by
  cases l with
  | nil => simp at hl
  | cons q r => rfl
theorem mom_last {t : Int} {p : Pr} {l : List Pr} (hl : l.length = 0) : mom t (p :: l) = if t ≤ p.1 then 0 else (t - p.1) * p.2 := by
  cases l with
  | nil => rfl
  | cons q r => simp at hl
theorem incT_head {p : Pr} {l : List Pr} (h : incT (p :: l)) : 1 ≤ p.2 ∧ p.2 ≤ 60000000 := by
  cases l with
  | nil => exact h
  | cons q r => exact h.1
theorem mom_pos {t : Int} : ∀ {l : List Pr}, incT l → 0 ≤ mom t l
  | [], _ => Int.le_refl _
  | p :: l, h => by
    by_cases ht : p.1 ≤ t
    · exact (mom_le h ht).1
    · rw [mom_low (by omega)]; exact Int.le_refl _
end Go.Proofs.Ytnhmhjhfoonakaa

/- checkRows. -/
set_option linter.unusedSimpArgs false
set_option linter.unusedVariables false
namespace Go.Proofs.Ytnhmhjhfoonakaa
open Go.RowKit Go.Dw
/-- a row of values that lies below block B -/
def VsAt (w : World) (B : Nat) (A : Option Addr) (n : Nat) (f : Nat → Value) : Prop :=
  ∀ k, k < n → ∃ b o, A = some ⟨b, o, none⟩ ∧ b < B ∧ w.cell? ⟨b, o + k, none⟩ = some (f k)
theorem VsAt.below {w w' : World} {B B' : Nat} {A : Option Addr} {n : Nat} {f : Nat → Value} (h : VsAt w B A n f) (hb : Below B' w w') (hB : B ≤ B') : VsAt w' B A n f := fun k hk => by
  obtain ⟨b, o, e, h1, h2⟩ := h k hk
  exact ⟨b, o, e, h1, (hb.cell (p := ⟨b, o + k, none⟩) (by dsimp only; omega)).trans h2⟩
def rowF (a : Nat → Int) (r : Nat → Bool) : Nat → Nat → Int
  | 0, _ => 0
  | d + 1, k => if a k < 0 ∨ 1000000000 < a k ∨ r k = false then 1 else if (k = 0 ∧ a k ≠ 0) ∨ (0 < k ∧ a k ≤ a (k - 1)) then 8 else rowF a r d (k + 1)
def chkRow (a : Nat → Int) (r : Nat → Bool) (n : Nat) : Int := if n = 0 then 9 else if 200 < n then 2 else rowF a r n 0
end Go.Proofs.Ytnhmhjhfoonakaa

/- CheckTempo. -/
set_option linter.unusedSimpArgs false
set_option linter.unusedVariables false
namespace Go.Proofs.Ytnhmhjhfoonakaa
open Go.RowKit Go.Dw
/-- a row of n values, of which k are filled in -/
def fillV (n k : Nat) (f : Nat → Value) (z : Value) : List Value := (List.range n).map fun j => if j < k then f j else z
theorem fillV_set {n k : Nat} {f : Nat → Value} {z : Value} (hk : k < n) : (fillV n k f z).set k (f k) = fillV n (k + 1) f z := by
  apply List.ext_getElem?
  intro j
  unfold fillV
  by_cases hj : j < n
  · by_cases hjk : k = j
    · subst hjk
      rw [List.getElem?_set_self (by simpa using hk)]
      simp [hk]
    · rw [List.getElem?_set_ne hjk]
      simp only [List.getElem?_map, List.getElem?_range hj, Option.map_some]
      by_cases h1 : j < k
      · rw [if_pos h1, if_pos (by omega)]
      · rw [if_neg h1, if_neg (by omega)]
  · rw [List.getElem?_eq_none (by simp; omega), List.getElem?_eq_none (by simp; omega)]
theorem fillV_zero {n : Nat} {f : Nat → Value} {z : Value} : List.replicate n z = fillV n 0 f z := by
  apply List.ext_getElem?
  intro j
  unfold fillV
  by_cases hj : j < n
  · simp [hj]
  · simp [hj]
theorem fillV_at {n j : Nat} {f : Nat → Value} {z : Value} (hj : j < n) : (fillV n n f z)[j]? = some (f j) := by
  unfold fillV
  simp [hj]
/-- the rows that CheckTempo fills -/
structure FillR (w : World) (B gi gb n k : Nat) (fa : Nat → Int) (fr : Nat → Bool) : Prop where
  ints : w.ownsRow B 3 1 (.slice (some ⟨gi, 0, none⟩) n n) n (fillV n k (fun j => .int .i64 (fa j)) (.int .i64 0))
  bools : w.ownsRow B 4 1 (.slice (some ⟨gb, 0, none⟩) n n) n (fillV n k (fun j => .bool (fr j)) (.bool false))
theorem FillR.below {w w' : World} {B gi gb n k : Nat} {fa : Nat → Int} {fr : Nat → Bool} (h : FillR w B gi gb n k fa fr) (hb : Below w.heap.size w w') : FillR w' B gi gb n k fa fr :=
  ⟨own_below h.ints hb, own_below h.bools hb⟩
theorem FillR.start {w : World} {B n : Nat} {fa : Nat → Int} {fr : Nat → Bool} (hB : B ≤ w.heap.size) (hn : n ≤ maxLen) :
    FillR ((w.alloc (.cells (madeCells #[.int .i64 0] n) 3)).alloc (.cells (madeCells #[.bool false] n) 4)) B w.heap.size (w.heap.size + 1) n 0 fa fr := by
  have h1 := World.ownsRow_lit (base := B) (e := 3) (size := 1) w (madeCells #[.int .i64 0] n) n hB hn (by simp [size_madeCells])
  have h2 := World.ownsRow_lit (base := B) (e := 4) (size := 1) (w.alloc (.cells (madeCells #[.int .i64 0] n) 3)) (madeCells #[.bool false] n) n (by simp; omega) hn (by simp [size_madeCells])
  rw [toList_madeCells_one, fillV_zero (f := fun j => .int .i64 (fa j))] at h1
  rw [toList_madeCells_one, fillV_zero (f := fun j => .bool (fr j))] at h2
  refine ⟨h1.alloc _, ?_⟩
  rw [World.size_alloc] at h2
  exact h2
theorem FillR.start2 {w : World} {B n : Nat} {fa : Nat → Int} {fr : Nat → Bool} (hB : B ≤ w.heap.size) (hn : n ≤ maxLen) :
    FillR ((w.alloc (.cells (madeCells #[.bool false] n) 4)).alloc (.cells (madeCells #[.int .i64 0] n) 3)) B (w.heap.size + 1) w.heap.size n 0 fa fr := by
  have h1 := World.ownsRow_lit (base := B) (e := 4) (size := 1) w (madeCells #[.bool false] n) n hB hn (by simp [size_madeCells])
  have h2 := World.ownsRow_lit (base := B) (e := 3) (size := 1) (w.alloc (.cells (madeCells #[.bool false] n) 4)) (madeCells #[.int .i64 0] n) n (by simp; omega) hn (by simp [size_madeCells])
  rw [toList_madeCells_one, fillV_zero (f := fun j => .bool (fr j))] at h1
  rw [toList_madeCells_one, fillV_zero (f := fun j => .int .i64 (fa j))] at h2
  rw [World.size_alloc] at h2
  exact ⟨h2, h1.alloc _⟩
theorem FillR.next {w : World} {B gi gb n k : Nat} {fa : Nat → Int} {fr : Nat → Bool} (h : FillR w B gi gb n k fa fr) (hk : k < n) :
    FillR ((w.setCell ⟨gi, k, none⟩ (.int .i64 (fa k))).setCell ⟨gb, k, none⟩ (.bool (fr k))) B gi gb n (k + 1) fa fr ∧ B ≤ gi ∧ B ≤ gb := by
  obtain ⟨h1, g1⟩ := h.ints.stored k (.int .i64 (fa k))
  rw [fillV_set hk] at h1
  have hne := own_ne h.ints h.bools (by decide)
  have hne' := own_ne h.bools h.ints (by decide)
  have h2 := h.bools.kept g1 (by rcases hne' with h | h; simp [Value.ownBlock] at h; exact .inr h)
  obtain ⟨h3, g3⟩ := h2.stored k (.bool (fr k))
  rw [fillV_set hk] at h3
  exact ⟨⟨h1.kept g3 (by rcases hne with h | h; simp [Value.ownBlock] at h; exact .inr h), h3⟩, (own_lt h.ints rfl).1, (own_lt h.bools rfl).1⟩
theorem FillR.done {w : World} {B gi gb n : Nat} {fa : Nat → Int} {fr : Nat → Bool} (h : FillR w B gi gb n n fa fr) :
    VsAt w w.heap.size (some ⟨gi, 0, none⟩) n (fun k => .int .i64 (fa k)) ∧ VsAt w w.heap.size (some ⟨gb, 0, none⟩) n (fun k => .bool (fr k)) := by
  refine ⟨fun k hk => ⟨gi, 0, rfl, (own_lt h.ints rfl).2, ?_⟩, fun k hk => ⟨gb, 0, rfl, (own_lt h.bools rfl).2, ?_⟩⟩
  · rw [Nat.zero_add, h.ints.cellAt k (by omega), fillV_at hk]
  · rw [Nat.zero_add, h.bools.cellAt k (by omega), fillV_at hk]
theorem infoInt : (Try.prog.info? 3).map (fun i => (i.zero, i.size, i.bytes)) = some (some (.int .i64 0), 1, 8) := by kernel_rfl
theorem infoBool : (Try.prog.info? 4).map (fun i => (i.zero, i.size, i.bytes)) = some (some (.bool false), 1, 1) := by kernel_rfl
theorem mkIntsT (n : Nat) (hn : n ≤ 8796093022207) (W : World) : (Instr.makeSlice 54 (.int .i64 (n : Int)) (.int .i64 (n : Int))).run Try.prog W = .ok (.slice (some ⟨W.heap.size, 0, none⟩) n n) (W.alloc (.cells (madeCells #[.int .i64 0] n) 3)) :=
  run_make_row' 54 3 (.int .i64 0) 8 Try.underlying54 infoInt rfl .i64 .i64 n (by omega) (by omega) W
theorem mkBools (n : Nat) (hn : n ≤ 8796093022207) (W : World) : (Instr.makeSlice 71 (.int .i64 (n : Int)) (.int .i64 (n : Int))).run Try.prog W = .ok (.slice (some ⟨W.heap.size, 0, none⟩) n n) (W.alloc (.cells (madeCells #[.bool false] n) 4)) :=
  run_make_row' 71 4 (.bool false) 1 Try.underlying71 infoBool rfl .i64 .i64 n (by omega) (by omega) W
end Go.Proofs.Ytnhmhjhfoonakaa

/- CheckTempo, walked. -/
set_option linter.unusedSimpArgs false
set_option linter.unusedVariables false
namespace Go.Proofs.Ytnhmhjhfoonakaa
open Go.RowKit Go.Dw
def tAt (l : List Pr) (k : Nat) : Int := (prOf l k).1
def tOk (M : Int) (l : List Pr) (k : Nat) : Bool := decide (1 ≤ (prOf l k).2) && decide ((prOf l k).2 ≤ M)
def chkL (M : Int) (l : List Pr) : Int := chkRow (tAt l) (tOk M l) l.length
def chkT (l ms : List Pr) : Int := if chkL 60000000 l ≠ 0 then chkL 60000000 l else chkL 32 ms
theorem fillR_step {w : World} {B gi gb n k : Nat} {fa : Nat → Int} {fr : Nat → Bool} (h : FillR w B gi gb n k fa fr) (hk : k < n) :
    FillR ((w.setCell ⟨gi, k, none⟩ (.int .i64 (fa k))).setCell ⟨gb, k, none⟩ (.bool (fr k))) B gi gb n (k + 1) fa fr ∧
      (w.cell? ⟨gi, k, none⟩ = some (.int .i64 0) ∧ w.frozen? ⟨gi, k, none⟩ = false) ∧ (∀ u, (w.setCell ⟨gi, k, none⟩ u).cell? ⟨gb, k, none⟩ = some (.bool false) ∧ (w.setCell ⟨gi, k, none⟩ u).frozen? ⟨gb, k, none⟩ = false) ∧ B ≤ gi ∧ B ≤ gb := by
  have hd := h
  obtain ⟨h1, h2, h3⟩ := hd.next hk
  refine ⟨h1, ⟨?_, hd.ints.frozenAt k⟩, fun u => ?_, h2, h3⟩
  · rw [hd.ints.cellAt k (by omega)]; simp [fillV, hk]
  · obtain ⟨_, g1⟩ := hd.ints.stored k u
    have hne' := own_ne hd.bools hd.ints (by decide)
    have hb := hd.bools.kept g1 (by rcases hne' with h | h; simp [Value.ownBlock] at h; exact .inr h)
    refine ⟨?_, hb.frozenAt k⟩
    rw [hb.cellAt k (by omega)]; simp [fillV, hk]
end Go.Proofs.Ytnhmhjhfoonakaa

/- SampleAt. -/
set_option linter.unusedSimpArgs false
set_option linter.unusedVariables false
namespace Go.Proofs.Ytnhmhjhfoonakaa
open Go.RowKit Go.Dw
/-- rows that begin rightly are right tempos -/
theorem rowF_ok {M : Int} : ∀ (d : Nat) (l : List Pr) (k : Nat), l.length = k + d → rowF (tAt l) (tOk M l) d k = 0 →
    ∀ j, k ≤ j → j < l.length → (0 ≤ (prOf l j).1 ∧ (prOf l j).1 ≤ 1000000000) ∧ (1 ≤ (prOf l j).2 ∧ (prOf l j).2 ≤ M) ∧ (j = 0 → (prOf l j).1 = 0) ∧ (0 < j → (prOf l (j - 1)).1 < (prOf l j).1)
  | 0, l, k, hl, _, j, h1, h2 => by omega
  | d + 1, l, k, hl, h, j, h1, h2 => by
    unfold rowF at h
    by_cases hbad : tAt l k < 0 ∨ 1000000000 < tAt l k ∨ tOk M l k = false
    · rw [if_pos hbad] at h; cases h
    rw [if_neg hbad] at h
    by_cases hord : (k = 0 ∧ tAt l k ≠ 0) ∨ (0 < k ∧ tAt l k ≤ tAt l (k - 1))
    · rw [if_pos hord] at h; cases h
    rw [if_neg hord] at h
    by_cases hj : j = k
    · subst hj
      unfold tAt at hbad hord
      have h3 : tOk M l j = true := by
        cases e : tOk M l j with
        | true => rfl
        | false => exact absurd (.inr (.inr e)) hbad
      unfold tOk at h3
      simp only [Bool.and_eq_true, decide_eq_true_eq] at h3
      refine ⟨⟨by omega, by omega⟩, h3, fun h0 => ?_, fun h0 => ?_⟩
      · have := fun h => hord (.inl ⟨h0, h⟩)
        exact Classical.byContradiction this
      · have := fun h => hord (.inr ⟨h0, h⟩)
        omega
    · exact rowF_ok d l (k + 1) (by omega) h j (by omega) h2
theorem incT_of : ∀ (l : List Pr), (∀ j, j < l.length → (1 ≤ (prOf l j).2 ∧ (prOf l j).2 ≤ 60000000) ∧ (0 < j → (prOf l (j - 1)).1 < (prOf l j).1)) → incT l
  | [], _ => trivial
  | [p], h => (h 0 (by simp)).1
  | p :: q :: r, h => by
    refine ⟨(h 0 (by simp)).1, (h 1 (by simp)).2 (by omega), incT_of (q :: r) fun j hj => ?_⟩
    have h1 := h (j + 1) (by simp at hj ⊢; omega)
    refine ⟨h1.1, fun h0 => ?_⟩
    have h2 := h1.2 (by omega)
    have e : j + 1 - 1 = (j - 1) + 1 := by omega
    rw [e] at h2
    exact h2
theorem chk_len {M : Int} {l : List Pr} (h : chkL M l = 0) : 0 < l.length ∧ l.length ≤ 200 := by
  unfold chkL chkRow at h
  by_cases h0 : l.length = 0
  · rw [if_pos h0] at h; cases h
  rw [if_neg h0] at h
  by_cases h2 : 200 < l.length
  · rw [if_pos h2] at h; cases h
  omega
theorem chk_rows {M : Int} {l : List Pr} (h : chkL M l = 0) (j : Nat) (hj : j < l.length) :
    (0 ≤ (prOf l j).1 ∧ (prOf l j).1 ≤ 1000000000) ∧ (1 ≤ (prOf l j).2 ∧ (prOf l j).2 ≤ M) ∧ (j = 0 → (prOf l j).1 = 0) ∧ (0 < j → (prOf l (j - 1)).1 < (prOf l j).1) := by
  have hl := chk_len h
  unfold chkL chkRow at h
  rw [if_neg (by omega), if_neg (by omega)] at h
  exact rowF_ok _ l 0 (by omega) h j (Nat.zero_le _) hj
theorem okP_of {l : List Pr} (h : chkL 60000000 l = 0) : OkP l := by
  have hl := chk_len h
  refine ⟨incT_of l fun j hj => ⟨(chk_rows h j hj).2.1, (chk_rows h j hj).2.2.2⟩, fun p hp => ?_, hl.1, hl.2, (chk_rows h 0 hl.1).2.2.1 rfl⟩
  obtain ⟨j, hj, e⟩ := List.getElem_of_mem hp
  have h1 := (chk_rows h j hj).1
  have e2 : prOf l j = p := by simp [prOf, List.getD, List.getElem?_eq_getElem hj, e]
  rw [e2] at h1
  exact h1
theorem okP_chkT {l ms : List Pr} (h : chkT l ms = 0) : OkP l ∧ chkL 32 ms = 0 := by
  unfold chkT at h
  by_cases h0 : chkL 60000000 l = 0
  · rw [if_neg (by simpa using h0)] at h
    exact ⟨okP_of h0, h⟩
  · rw [if_pos h0] at h; exact absurd h h0
theorem mom_top {l : List Pr} (hok : OkP l) {t : Int} (ht0 : 0 ≤ t) (ht1 : t ≤ 1000000000) : 0 ≤ mom t l ∧ mom t l ≤ 60000000000000000 := by
  have h1 := hok.some
  have h2 := hok.first
  obtain ⟨p, r, e⟩ : ∃ p r, l = p :: r := by cases l with | nil => simp at h1 | cons p r => exact ⟨p, r, rfl⟩
  have h3 : p.1 = 0 := by rw [e] at h2; exact h2
  have hi := hok.inc
  rw [e] at hi ⊢
  have := mom_le hi (t := t) (by omega)
  rw [h3] at this
  omega
def badS (rate t T : Int) : Prop := ¬ (1 ≤ rate ∧ rate ≤ 1000000) ∨ t < 0 ∨ T < t
instance (rate t T : Int) : Decidable (badS rate t T) := by unfold badS; exact inferInstance
/-- SampleAt -/
def sampS (l ms : List Pr) (rate t : Int) : Int × Int :=
  if chkT l ms ≠ 0 then (0, chkT l ms) else if badS rate t 1000000000 then (0, 1) else
  if 10000000000000 < ceilB ((mom t l).toNat * rate.toNat) then (0, 1) else ((ceilB ((mom t l).toNat * rate.toNat) : Nat), 0)
theorem ISRATET_any (r : Int) (w : World) : Calls Try.prog 25 #[.int .i64 r] w fun e w' => e = .returned (.bool (decide (1 ≤ r) && decide (r ≤ 1000000))) ∧ w = w' := by
  by_cases h1 : 1 ≤ r
  · by_cases h2 : r ≤ 1000000
    · go_enter Try.func25, Try.ntmps25
      go_wp2_with fail
      go_ret
      exact ⟨by simp [h1, h2], rfl⟩
    · go_enter Try.func25, Try.ntmps25
      go_wp2_with fail
      go_ret
      exact ⟨by simp [h1, h2], rfl⟩
  · go_enter Try.func25, Try.ntmps25
    go_wp2_with fail
    go_ret
    exact ⟨by rw [show decide (1 ≤ r) = false by simpa using h1, Bool.false_and]; rfl, rfl⟩
end Go.Proofs.Ytnhmhjhfoonakaa
