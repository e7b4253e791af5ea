/- Positions, rates and ways of rounding, of both sides. -/
import Derived.Test.YtnhmhjhfoonakaaMem
import Derived.Test.YtnhmhjhfoonakaaProg
import Derived.Test.YtnhmhjhfoonakaaZa
import Derived.BigQuiet
set_option linter.unusedSimpArgs false
set_option linter.unusedVariables false
namespace Go.Proofs.Ytnhmhjhfoonakaa
open Go.RowKit Go.Dw
def okPos (n : Int) : Bool := decide (-10000000000000 ≤ n) && decide (n ≤ 10000000000000)
def okRate (n : Int) : Bool := decide (1 ≤ n) && decide (n ≤ 1000000)
def okWay (n : Int) : Bool := decide (1 ≤ n) && decide (n ≤ 3)
theorem okPos_le {n : Int} (h : okPos n = true) : -10000000000000 ≤ n ∧ n ≤ 10000000000000 := by unfold okPos at h; simpa using h
theorem okRate_le {n : Int} (h : okRate n = true) : 1 ≤ n ∧ n ≤ 1000000 := by unfold okRate at h; simpa using h
theorem ISRATE_any (r : Int) (w : World) : Calls Try.prog 25 #[.int .i64 r] w fun e w' => e = .returned (.bool (decide (1 ≤ r) && decide (r ≤ 1000000))) ∧ w = w' := by
  by_cases h1 : 1 ≤ r
  · by_cases h2 : r ≤ 1000000
    · go_enter Try.func25, Try.ntmps25
      go_wp2_with fail
      go_ret
      exact ⟨by simp [h1, h2], rfl⟩
    · go_enter Try.func25, Try.ntmps25
      go_wp2_with fail
      go_ret
      exact ⟨by simp [h1, h2], rfl⟩
  · go_enter Try.func25, Try.ntmps25
    go_wp2_with fail
    go_ret
    exact ⟨by rw [show decide (1 ≤ r) = false by simpa using h1, Bool.false_and]; rfl, rfl⟩
theorem RISRATE_any (r : Int) (w : World) : Calls Try.prog 57 #[.int .i64 r] w fun e w' => e = .returned (.bool (decide (1 ≤ r) && decide (r ≤ 1000000))) ∧ w = w' := by
  by_cases h1 : 1 ≤ r
  · by_cases h2 : r ≤ 1000000
    · go_enter Try.func57, Try.ntmps57
      go_wp2_with fail
      go_ret
      exact ⟨by simp [h1, h2], rfl⟩
    · go_enter Try.func57, Try.ntmps57
      go_wp2_with fail
      go_ret
      exact ⟨by simp [h1, h2], rfl⟩
  · go_enter Try.func57, Try.ntmps57
    go_wp2_with fail
    go_ret
    exact ⟨by rw [show decide (1 ≤ r) = false by simpa using h1, Bool.false_and]; rfl, rfl⟩
end Go.Proofs.Ytnhmhjhfoonakaa

/- CheckPairs and CheckSpans, of both sides. -/
set_option linter.unusedSimpArgs false
set_option linter.unusedVariables false
namespace Go.Proofs.Ytnhmhjhfoonakaa
open Go.RowKit Go.Dw
def okPr (p : Pr) : Bool := okPos p.1 && okPos p.2
/-- the first error of rows, by what is out of order -/
def rowG (o : List Pr → Nat → Bool) (l : List Pr) : Nat → Nat → Int
  | 0, _ => 0
  | d + 1, k => if okPr (prOf l k) = false then 1 else if o l k = true then 8 else rowG o l d (k + 1)
def ordP (l : List Pr) (k : Nat) : Bool := decide (0 < k) && (decide ((prOf l k).1 ≤ (prOf l (k - 1)).1) || decide ((prOf l k).2 ≤ (prOf l (k - 1)).2))
def ordSp (l : List Pr) (k : Nat) : Bool := decide ((prOf l k).2 ≤ (prOf l k).1) || (decide (0 < k) && decide ((prOf l k).1 ≤ (prOf l (k - 1)).2))
/-- CheckPairs -/
def chkP (l : List Pr) : Int := if l.length < 2 then 9 else if 500 < l.length then 2 else rowG ordP l l.length 0
/-- CheckSpans -/
def chkSp (l : List Pr) : Int := if 1000 < l.length then 2 else rowG ordSp l l.length 0
theorem rowG_at {o : List Pr → Nat → Bool} {l : List Pr} {n k : Nat} {v : Int} (hk : k < n) (h : v = rowG o l (n - k) k) :
    v = if okPr (prOf l k) = false then 1 else if o l k = true then 8 else rowG o l (n - (k + 1)) (k + 1) := by
  rw [h, show n - k = (n - (k + 1)) + 1 by omega]; rfl
theorem rowG_zero {o : List Pr → Nat → Bool} {l : List Pr} : ∀ {d k : Nat}, rowG o l d k = 0 → ∀ j, k ≤ j → j < k + d → okPr (prOf l j) = true ∧ o l j = false
  | 0, k, _, j, h1, h2 => by omega
  | d + 1, k, h, j, h1, h2 => by
    unfold rowG at h
    by_cases a : okPr (prOf l k) = false
    · rw [if_pos a] at h; exact absurd h (by decide)
    · rw [if_neg a] at h
      by_cases b : o l k = true
      · rw [if_pos b] at h; exact absurd h (by decide)
      · rw [if_neg b] at h
        by_cases hj : j = k
        · subst hj; exact ⟨by simpa using a, by simpa using b⟩
        · exact rowG_zero h j (by omega) (by omega)
theorem rowG_range {o : List Pr → Nat → Bool} {l : List Pr} : ∀ {d k : Nat}, 0 ≤ rowG o l d k
  | 0, k => Int.le_refl _
  | d + 1, k => by
    unfold rowG
    split
    · omega
    · split
      · omega
      · exact rowG_range
theorem ordP_zero {l : List Pr} : ordP l 0 = false := rfl
theorem ordP_succ {l : List Pr} {j : Nat} {x y z1 z2 : Int} (h : prOf l (j + 1) = (x, y)) (h' : prOf l j = (z1, z2)) : ordP l (j + 1) = (decide (x ≤ z1) || decide (y ≤ z2)) := by
  unfold ordP; rw [show j + 1 - 1 = j by omega, h, h']; simp
theorem ordSp_zero {l : List Pr} {x y : Int} (h : prOf l 0 = (x, y)) : ordSp l 0 = decide (y ≤ x) := by
  unfold ordSp; rw [h]; simp
theorem ordSp_succ {l : List Pr} {j : Nat} {x y z1 z2 : Int} (h : prOf l (j + 1) = (x, y)) (h' : prOf l j = (z1, z2)) : ordSp l (j + 1) = (decide (y ≤ x) || decide (x ≤ z2)) := by
  unfold ordSp; rw [show j + 1 - 1 = j by omega, h, h']; simp
end Go.Proofs.Ytnhmhjhfoonakaa

/- Turned, of both sides. -/
set_option linter.unusedSimpArgs false
set_option linter.unusedVariables false
namespace Go.Proofs.Ytnhmhjhfoonakaa
open Go.RowKit Go.Dw
def swapP (l : List Pr) : List Pr := l.map fun p => (p.2, p.1)
/-- Turned -/
def turnS (l : List Pr) : List Pr × Int := if chkP l = 0 then (swapP l, 0) else ([], chkP l)
theorem swap_len (l : List Pr) : (swapP l).length = l.length := by simp [swapP]
theorem swap_at {l : List Pr} {k : Nat} (h : k < l.length) : prOf (swapP l) k = ((prOf l k).2, (prOf l k).1) := by
  simp [swapP, prOf, List.getD, List.getElem?_map, List.getElem?_eq_getElem h]
theorem swap_take {l : List Pr} {k : Nat} {x y : Int} (h : k < l.length) (hp : prOf l k = (x, y)) : (swapP l).take (k + 1) = (swapP l).take k ++ [(y, x)] := by
  rw [take_pr (by rw [swap_len]; exact h), swap_at h, hp]
theorem swap_fill {l : List Pr} {n k : Nat} {x y : Int} (hl : l.length = n) (h : k < n) (hp : prOf l k = (x, y)) :
    ((swapP l).take k ++ List.replicate (n - k) (0, 0)).set k (y, x) = (swapP l).take (k + 1) ++ List.replicate (n - (k + 1)) (0, 0) := by
  have e1 : ((swapP l).take k).length = k := by rw [List.length_take, swap_len]; omega
  rw [List.set_append_right _ _ (by omega), e1, Nat.sub_self, show n - k = (n - (k + 1)) + 1 by omega, List.replicate_succ, List.set_cons_zero, swap_take (by omega) hp, List.append_assoc]
  rfl
theorem chkP_ok {l : List Pr} (h : chkP l = 0) : 2 ≤ l.length ∧ l.length ≤ 500 := by
  unfold chkP at h
  by_cases h1 : l.length < 2
  · rw [if_pos h1] at h; exact absurd h (by decide)
  · rw [if_neg h1] at h
    by_cases h2 : 500 < l.length
    · rw [if_pos h2] at h; exact absurd h (by decide)
    · omega
def OutT2 (E : TypeId) (w : World) (z : List Pr × Int) (e : Ending) (w' : World) : Prop := ∃ v, e = .returned (.tuple #[v, .int .i64 z.2]) ∧ OwnPrs E w' w.heap.size v z.1 ∧ Below w.heap.size w w'
end Go.Proofs.Ytnhmhjhfoonakaa

/- Moved, of both sides. -/
set_option linter.unusedSimpArgs false
set_option linter.unusedVariables false
namespace Go.Proofs.Ytnhmhjhfoonakaa
open Go.RowKit Go.Dw
def shP (b : Int) (p : Pr) : Pr := (p.1 + b, p.2 + b)
/-- Moved -/
def movS (l : List Pr) (b : Int) : List Pr × Int := if chkSp l ≠ 0 then ([], chkSp l) else if okPos b = false then ([], 1) else if l.all (fun p => okPr (shP b p)) then (l.map (shP b), 0) else ([], 1)
theorem pr_cells {w : World} {g : Nat} {v0 v1 : Value} {T : TypeId} (h : w.heap[g]? = some (.cells #[v0, v1] T (0, 0))) : w.cell? ⟨g, 0, none⟩ = some v0 ∧ w.cell? ⟨g, 1, none⟩ = some v1 ∧ w.frozen? ⟨g, 0, none⟩ = false ∧ w.frozen? ⟨g, 1, none⟩ = false := by
  have h0 := own_cell1 h 0
  have h1 := own_cell1 h 1
  simp only [List.getElem?_toArray, List.getElem?_cons_zero, List.getElem?_cons_succ] at h0 h1
  exact ⟨h0, h1, frozen_of_row w g 0 _ _ h, frozen_of_row w g 1 _ _ h⟩
theorem heap2_store {w : World} {g : Nat} {o0 o1 v0 v1 : Value} {T : TypeId} (h : w.heap[g]? = some (.cells #[o0, o1] T (0, 0))) : ((w.setCell ⟨g, 0, none⟩ v0).setCell ⟨g, 1, none⟩ v1).heap[g]? = some (.cells #[v0, v1] T (0, 0)) := by
  simp only [World.setCell, Array.getElem?_modify, h]
  simp
theorem chkSp_few {l : List Pr} (h : chkSp l = 0) : l.length ≤ 1000 := by
  unfold chkSp at h
  by_cases h1 : 1000 < l.length
  · rw [if_pos h1] at h; exact absurd h (by decide)
  · omega
theorem chkSp_rng {l : List Pr} (h : chkSp l = 0) {k : Nat} (hk : k < l.length) : (-10000000000000 ≤ (prOf l k).1 ∧ (prOf l k).1 ≤ 10000000000000) ∧ (-10000000000000 ≤ (prOf l k).2 ∧ (prOf l k).2 ≤ 10000000000000) := by
  have hf := chkSp_few h
  unfold chkSp at h
  rw [if_neg (by omega)] at h
  obtain ⟨a, _⟩ := rowG_zero h k (by omega) (by omega)
  unfold okPr at a
  rw [Bool.and_eq_true] at a
  exact ⟨okPos_le a.1, okPos_le a.2⟩
theorem all_take_fail {l : List Pr} {P : Pr → Bool} {k : Nat} (hk : k < l.length) (h : P (prOf l k) = false) : l.all P = false := by
  rw [List.all_eq_false]
  exact ⟨_, pr_mem hk, by rw [h]; simp⟩
theorem all_of_each {l : List Pr} {P : Pr → Bool} (h : ∀ j, j < l.length → P (prOf l j) = true) : l.all P = true := by
  rw [List.all_eq_true]
  intro x hx
  obtain ⟨i, hi, rfl⟩ := List.getElem_of_mem hx
  have := h i hi
  simpa [prOf, List.getD, List.getElem?_eq_getElem hi] using this
theorem sh_take {l : List Pr} {b x y : Int} {k : Nat} (hk : k < l.length) (hp : prOf l k = (x, y)) : (l.map (shP b)).take (k + 1) = (l.map (shP b)).take k ++ [(x + b, y + b)] := by
  rw [← List.map_take, ← List.map_take, take_pr hk, hp, List.map_append]; rfl
end Go.Proofs.Ytnhmhjhfoonakaa

/- Outward, of both sides. -/
set_option linter.unusedSimpArgs false
set_option linter.unusedVariables false
namespace Go.Proofs.Ytnhmhjhfoonakaa
open Go.RowKit Go.Dw
/-- Append: one span more, which may grow into the last one -/
def appS (acc : List Pr) (p : Pr) : List Pr := if 0 < acc.length ∧ p.1 ≤ (prOf acc (acc.length - 1)).2 then acc.set (acc.length - 1) ((prOf acc (acc.length - 1)).1, max (prOf acc (acc.length - 1)).2 p.2) else acc ++ [p]
theorem appS_len (acc : List Pr) (p : Pr) : (appS acc p).length ≤ acc.length + 1 := by
  unfold appS
  split
  · rw [List.length_set]; omega
  · simp
theorem appS_set {acc : List Pr} {m : Nat} {x y z1 z2 : Int} (hl : acc.length = m + 1) (hz : prOf acc m = (z1, z2)) (h : x ≤ z2) : appS acc (x, y) = acc.set m ((prOf acc m).1, max z2 y) := by
  unfold appS
  rw [hl, show m + 1 - 1 = m by omega, if_pos ⟨by omega, by rw [hz]; exact h⟩, hz]
theorem appS_new {acc : List Pr} {x y : Int} (h : ∀ m, acc.length = m + 1 → ¬ x ≤ (prOf acc m).2) : appS acc (x, y) = acc ++ [(x, y)] := by
  unfold appS
  rw [if_neg]
  rintro ⟨h1, h2⟩
  exact h (acc.length - 1) (by omega) h2
set_option maxRecDepth 100000 in
set_option maxHeartbeats 8000000 in
theorem SAPPEND_own (A : Option Addr) (n c : Nat) (acc : List Pr) (x y : Int) (w : World) (base : Nat) (hb : base ≤ w.heap.size) (hn : n ≤ 1000000) (ho : Hid (OwnPrs 48 w base (.slice A n c) acc)) :
    Calls Try.prog 44 #[.slice A n c, .agg #[.int .i64 x, .int .i64 y]] w fun e w' => ∃ v, e = .returned v ∧ OwnPrs 48 w' base v (appS acc (x, y)) ∧ Below base w w' := by
  obtain ⟨W, gx, hW, hgx, HHW, HBW0, HSW⟩ := cell_new0 w 48 #[.int .i64 x, .int .i64 y]
  have HBW := Lib.hid (HBW0.out.mono hb)
  have HOW := Lib.hid (ho.out.below HBW0.out)
  obtain ⟨b0, b1, _, _⟩ := pr_cells HHW.out
  have HC := Lib.hid (And.intro b0 b1)
  have hgw := blk_lt HHW.out
  have hlen : n = acc.length := by
    obtain ⟨A', c', e, _, _⟩ := HOW.out.len
    injection e
  have HGX := Lib.hid hgx
  go_enter Try.func44, Try.ntmps44
  go_upto_region 1 with (fail)
  rw [← hW, ← hgx]
  clear hW hgx
  rcases Nat.eq_zero_or_pos n with h0 | hpos
  · have HV : Hid (appS acc (x, y) = acc ++ [(x, y)]) := appS_new (fun m hm => by omega)
    subst h0
    clear hlen
    go_wp2_with (fail)
    go_quiet (fail)
    obtain ⟨X, hX⟩ : ∃ X : World, X = W.drewN nq := ⟨_, rfl⟩
    rw [← hX]
    have hx0 : X.cell? ⟨gx, 0, none⟩ = some (.int .i64 x) := by rw [hX]; exact HC.out.1
    have hx1 : X.cell? ⟨gx, 1, none⟩ = some (.int .i64 y) := by rw [hX]; exact HC.out.2
    have HOX : Hid (OwnPrs 48 X base (.slice A (0) c) acc) := by show OwnPrs _ _ _ _ _; rw [hX]; exact HOW.out.below (belowN (Below.refl _ W) nq)
    have HBX : Hid (Below base w X) := by show Below _ _ _; rw [hX]; exact belowN HBW.out nq
    have hsx := HBX.out.size
    have hbx : base ≤ X.heap.size := Nat.le_trans hb hsx
    clear hX
    go_wp2_with (with_reducible refine wpList_push_span rfl (.tmp 34) (.tmp 36) rfl base A 0 c acc x y X.heap.size rfl rfl rfl HOX.out (by omega) hbx ?_; intro g5 cap5 w5 hown5 hb5)
    go_ret
    exact ⟨_, rfl, by rw [HV.out]; exact hown5, HBX.out.trans hb5⟩
  · obtain ⟨m, rfl⟩ : ∃ m, n = m + 1 := ⟨n - 1, by omega⟩
    obtain ⟨g, cap, hv, hg1, hg2, _, _, hcl⟩ := HOW.out.slot (by omega)
    injection hv with e1 e2 e3
    subst e1 e3
    obtain ⟨⟨s1, s2⟩, f1, f2⟩ := hcl m (by omega)
    obtain ⟨z, hz⟩ : ∃ z, prOf acc m = z := ⟨_, rfl⟩
    obtain ⟨z1, z2⟩ := z
    have HZ := Lib.hid hz
    rw [hz] at s1 s2
    dsimp only at s1 s2
    have hm0 : (0 : Int) ≤ (m : Int) := by omega
    have hmn : (m : Int) < (m : Int) + 1 := by omega
    have hmw : IntKind.i64.wrap (m : Int) = (m : Int) := IntWalk.i64_in _ (by omega)
    have HL := Lib.hid hlen.symm
    have hm9 : m + 1 ≤ 1000000 := hn
    clear hcl hz hlen e2
    by_cases hle : x ≤ z2
    · have HV := Lib.hid (appS_set (y := y) HL.out HZ.out hle)
      go_wp2_with (fail)
      go_quiet (fail)
      obtain ⟨X, hX⟩ : ∃ X : World, X = W.drewN nq := ⟨_, rfl⟩
      rw [← hX]
      have HX1 : Hid (X.cell? ⟨g, m * 2 + 1, none⟩ = some (.int .i64 z2) ∧ X.cell? ⟨gx, 1, none⟩ = some (.int .i64 y)) := by show _ ∧ _; rw [hX]; exact ⟨s2, HC.out.2⟩
      have hfX : X.frozen? ⟨g, m * 2 + 1, none⟩ = false := by rw [hX]; exact f2
      have HOX : Hid (OwnPrs 48 X base (.slice (some ⟨g, 0, none⟩) (m + 1) c) acc) := by show OwnPrs _ _ _ _ _; rw [hX]; exact HOW.out.below (belowN (Below.refl _ W) nq)
      have HBX : Hid (Below base w X) := by show Below _ _ _; rw [hX]; exact belowN HBW.out nq
      have HGB := Lib.hid hg1
      clear hX s1 s2 f1 f2 b0 b1
      go_upto_region 3 with (fail)
      refine wp_region_text 10 (fun x9 => x9.cell? ⟨g, m * 2 + 1, none⟩ = some (.int .i64 z2) ∧ x9.cell? ⟨gx, 1, none⟩ = some (.int .i64 y)) (by kernel_rfl) (by kernel_rfl) ?_
      obtain ⟨Y, hY⟩ : ∃ Y : World, Y = X.drew := ⟨_, rfl⟩
      rw [← hY]
      have hS : Y.cell? ⟨g, m * 2 + 1, none⟩ = some (.int .i64 z2) ∧ Y.cell? ⟨gx, 1, none⟩ = some (.int .i64 y) := by rw [hY]; exact HX1.out
      have hfY : Y.frozen? ⟨g, m * 2 + 1, none⟩ = false := by rw [hY]; exact hfX
      have hcY := hS.1
      have HOY : Hid (OwnPrs 48 Y base (.slice (some ⟨g, 0, none⟩) (m + 1) c) acc) := by show OwnPrs _ _ _ _ _; rw [hY]; exact HOX.out.below ((Below.refl _ X).drew)
      have HBY : Hid (Below base w Y) := by show Below _ _ _; rw [hY]; exact HBX.out.drew
      clear hY hfX
      refine HT.take (i := 0) (oi := _) (v := ?_) rfl (by kernel_rfl) (by kernel_rfl) (by decide) (fun _ _ _ h => h) (Or.inl ⟨by rfl, ?_⟩) hS ?_
      rotate_left
      · intro wz
        go_simp
        try with_reducible rfl
      simp only [List.getElem_toArray, List.getElem_cons_succ, List.getElem_cons_zero, Act.put, List.setIfInBounds_toArray, List.set_cons_zero, List.set_cons_succ]
      refine HT.take (i := 1) (oi := _) (v := ?_) rfl (by kernel_rfl) (by kernel_rfl) (by decide) (fun _ _ _ h => h) (Or.inl ⟨by rfl, ?_⟩) hS ?_
      rotate_left
      · intro wz
        go_simp
        try with_reducible rfl
      simp only [List.getElem_toArray, List.getElem_cons_succ, List.getElem_cons_zero, Act.put, List.setIfInBounds_toArray, List.set_cons_zero, List.set_cons_succ]
      refine HT.take (i := 2) (oi := _) (v := ?_) rfl (by kernel_rfl) (by kernel_rfl) (by decide) (fun _ _ _ h => h) (Or.inl ⟨by rfl, ?_⟩) hS ?_
      rotate_left
      · intro wz
        go_simp
        try with_reducible rfl
      simp only [List.getElem_toArray, List.getElem_cons_succ, List.getElem_cons_zero, Act.put, List.setIfInBounds_toArray, List.set_cons_zero, List.set_cons_succ]
      refine HT.take (i := 3) (oi := _) (v := ?_) rfl (by kernel_rfl) (by kernel_rfl) (by decide) (fun _ _ _ h => h) (Or.inl ⟨by rfl, ?_⟩) hS ?_
      rotate_left
      · intro wz
        go_simp
        try with_reducible rfl
      simp only [List.getElem_toArray, List.getElem_cons_succ, List.getElem_cons_zero, Act.put, List.setIfInBounds_toArray, List.set_cons_zero, List.set_cons_succ]
      refine HT.take (i := 4) (oi := _) (v := ?_) rfl (by kernel_rfl) (by kernel_rfl) (by decide) (fun _ _ _ h => h) (Or.inl ⟨by rfl, ?_⟩) hS ?_
      rotate_left
      · intro wz
        go_simp
        try with_reducible rfl
      simp only [List.getElem_toArray, List.getElem_cons_succ, List.getElem_cons_zero, Act.put, List.setIfInBounds_toArray, List.set_cons_zero, List.set_cons_succ]
      refine HT.take (i := 5) (oi := _) (v := ?_) rfl (by kernel_rfl) (by kernel_rfl) (by decide) (fun _ _ _ h => h) (Or.inl ⟨by rfl, ?_⟩) hS ?_
      rotate_left
      · intro wz
        go_simp
        try with_reducible rfl
      simp only [List.getElem_toArray, List.getElem_cons_succ, List.getElem_cons_zero, Act.put, List.setIfInBounds_toArray, List.set_cons_zero, List.set_cons_succ]
      refine HT.load (i := 6) (oi := _) (v := ?_) rfl (by kernel_rfl) (by kernel_rfl) (by decide) (fun _ _ _ h => h) (by kernel_rfl) (Or.inl ⟨by rfl, ?_⟩) hS ?_
      rotate_left
      · intro wz hwz
        try dsimp only at hwz
        go_simp
        try with_reducible rfl
      simp only [List.getElem_toArray, List.getElem_cons_succ, List.getElem_cons_zero, Act.put, List.setIfInBounds_toArray, List.set_cons_zero, List.set_cons_succ]
      refine HT.take (i := 7) (oi := _) (v := ?_) rfl (by kernel_rfl) (by kernel_rfl) (by decide) (fun _ _ _ h => h) (Or.inl ⟨by rfl, ?_⟩) hS ?_
      rotate_left
      · intro wz
        go_simp
        try with_reducible rfl
      simp only [List.getElem_toArray, List.getElem_cons_succ, List.getElem_cons_zero, Act.put, List.setIfInBounds_toArray, List.set_cons_zero, List.set_cons_succ]
      refine HT.load (i := 8) (oi := _) (v := ?_) rfl (by kernel_rfl) (by kernel_rfl) (by decide) (fun _ _ _ h => h) (by kernel_rfl) (Or.inl ⟨by rfl, ?_⟩) hS ?_
      rotate_left
      · intro wz hwz
        try dsimp only at hwz
        go_simp
        try with_reducible rfl
      simp only [List.getElem_toArray, List.getElem_cons_succ, List.getElem_cons_zero, Act.put, List.setIfInBounds_toArray, List.set_cons_zero, List.set_cons_succ]
      refine HT.take (i := 9) (oi := _) (v := ?_) rfl (by kernel_rfl) (by kernel_rfl) (by decide) (fun _ _ _ h => h) (Or.inl ⟨by rfl, ?_⟩) hS ?_
      rotate_left
      · intro wz
        go_simp
        try with_reducible rfl
      simp only [List.getElem_toArray, List.getElem_cons_succ, List.getElem_cons_zero, Act.put, List.setIfInBounds_toArray, List.set_cons_zero, List.set_cons_succ]
      refine HT.done (by kernel_rfl) ?_
      clear hS
      simp only [List.drop_succ_cons, List.drop_zero]
      have HO9 := Lib.hid (HOY.out.set1 (k := m) (by rw [HL.out]; omega) (max z2 y))
      rw [← HV.out] at HO9
      have HB9 := Lib.hid (HBY.out.setCell (p := ⟨g, m * 2 + 1, none⟩) HGB.out (.int .i64 (max z2 y)))
      go_wp2_with (fail)
      all_goals
        go_ret
        first
          | exact ⟨_, rfl, HO9.out, HB9.out⟩
          | (have e9 : max z2 y = y := by omega
             rw [e9] at HO9 HB9
             exact ⟨_, rfl, HO9.out, HB9.out⟩)
          | (have e9 : max z2 y = z2 := by omega
             rw [e9] at HO9 HB9
             exact ⟨_, rfl, HO9.out, HB9.out⟩)
    · have hlf : decide (x ≤ z2) = false := decide_eq_false hle
      have HV : Hid (appS acc (x, y) = acc ++ [(x, y)]) := appS_new (fun m' hm' => by
        obtain rfl : m' = m := by have := HL.out; omega
        rw [HZ.out]; exact hle)
      clear hle
      go_wp2_with (fail)
      go_quiet (fail)
      obtain ⟨A, hA⟩ : ∃ A : Option Addr, A = some ⟨g, 0, none⟩ := ⟨_, rfl⟩
      rw [← hA] at HOW
      rw [← hA]
      clear s1 s2 f1 f2 hA
      obtain ⟨X, hX⟩ : ∃ X : World, X = W.drewN nq := ⟨_, rfl⟩
      rw [← hX]
      have hx0 : X.cell? ⟨gx, 0, none⟩ = some (.int .i64 x) := by rw [hX]; exact HC.out.1
      have hx1 : X.cell? ⟨gx, 1, none⟩ = some (.int .i64 y) := by rw [hX]; exact HC.out.2
      have HOX : Hid (OwnPrs 48 X base (.slice A (m + 1) c) acc) := by show OwnPrs _ _ _ _ _; rw [hX]; exact HOW.out.below (belowN (Below.refl _ W) nq)
      have HBX : Hid (Below base w X) := by show Below _ _ _; rw [hX]; exact belowN HBW.out nq
      have hsx := HBX.out.size
      have hbx : base ≤ X.heap.size := Nat.le_trans hb hsx
      clear hX
      go_wp2_with (with_reducible refine wpList_push_span rfl (.tmp 34) (.tmp 36) rfl base A (m + 1) c acc x y X.heap.size rfl rfl rfl HOX.out (by omega) hbx ?_; intro g5 cap5 w5 hown5 hb5)
      go_ret
      exact ⟨_, rfl, by rw [HV.out]; exact hown5, HBX.out.trans hb5⟩
end Go.Proofs.Ytnhmhjhfoonakaa
