/- Moved, of both sides. -/
import Derived.Test.YthjmhdnamhifjaaGreatDoorTrn
import Derived.Test.YthjmhdnamhifjaaGreatDoorSpn2
set_option linter.unusedSimpArgs false
set_option linter.unusedVariables false
namespace Go.Proofs.YthjmhdnamhifjaaGreatDoor
open Go.RowKit Go.Dw
def shP (b : Int) (p : Pr) : Pr := (p.1 + b, p.2 + b)
/-- Moved -/
def movS (l : List Pr) (b : Int) : List Pr × Int := if chkSp l ≠ 0 then ([], chkSp l) else if okPos b = false then ([], 1) else if l.all (fun p => okPr (shP b p)) then (l.map (shP b), 0) else ([], 1)
theorem pr_cells {w : World} {g : Nat} {v0 v1 : Value} {T : TypeId} (h : w.heap[g]? = some (.cells #[v0, v1] T (0, 0))) : w.cell? ⟨g, 0, none⟩ = some v0 ∧ w.cell? ⟨g, 1, none⟩ = some v1 ∧ w.frozen? ⟨g, 0, none⟩ = false ∧ w.frozen? ⟨g, 1, none⟩ = false := by
  have h0 := own_cell1 h 0
  have h1 := own_cell1 h 1
  simp only [List.getElem?_toArray, List.getElem?_cons_zero, List.getElem?_cons_succ] at h0 h1
  exact ⟨h0, h1, frozen_of_row w g 0 _ _ h, frozen_of_row w g 1 _ _ h⟩
theorem heap2_store {w : World} {g : Nat} {o0 o1 v0 v1 : Value} {T : TypeId} (h : w.heap[g]? = some (.cells #[o0, o1] T (0, 0))) : ((w.setCell ⟨g, 0, none⟩ v0).setCell ⟨g, 1, none⟩ v1).heap[g]? = some (.cells #[v0, v1] T (0, 0)) := by
  simp only [World.setCell, Array.getElem?_modify, h]
  simp
theorem chkSp_few {l : List Pr} (h : chkSp l = 0) : l.length ≤ 1000 := by
  unfold chkSp at h
  by_cases h1 : 1000 < l.length
  · rw [if_pos h1] at h; exact absurd h (by decide)
  · omega
theorem chkSp_rng {l : List Pr} (h : chkSp l = 0) {k : Nat} (hk : k < l.length) : (-10000000000000 ≤ (prOf l k).1 ∧ (prOf l k).1 ≤ 10000000000000) ∧ (-10000000000000 ≤ (prOf l k).2 ∧ (prOf l k).2 ≤ 10000000000000) := by
  have hf := chkSp_few h
  unfold chkSp at h
  rw [if_neg (by omega)] at h
  obtain ⟨a, _⟩ := rowG_zero h k (by omega) (by omega)
  unfold okPr at a
  rw [Bool.and_eq_true] at a
  exact ⟨okPos_le a.1, okPos_le a.2⟩
theorem all_take_fail {l : List Pr} {P : Pr → Bool} {k : Nat} (hk : k < l.length) (h : P (prOf l k) = false) : l.all P = false := by
  rw [List.all_eq_false]
  exact ⟨_, pr_mem hk, by rw [h]; simp⟩
theorem all_of_each {l : List Pr} {P : Pr → Bool} (h : ∀ j, j < l.length → P (prOf l j) = true) : l.all P = true := by
  rw [List.all_eq_true]
  intro x hx
  obtain ⟨i, hi, rfl⟩ := List.getElem_of_mem hx
  have := h i hi
  simpa [prOf, List.getD, List.getElem?_eq_getElem hi] using this
theorem sh_take {l : List Pr} {b x y : Int} {k : Nat} (hk : k < l.length) (hp : prOf l k = (x, y)) : (l.map (shP b)).take (k + 1) = (l.map (shP b)).take k ++ [(x + b, y + b)] := by
  rw [← List.map_take, ← List.map_take, take_pr hk, hp, List.map_append]; rfl
set_option maxRecDepth 100000 in
set_option maxHeartbeats 8000000 in
theorem MOVED_any (A : Option Addr) (n c : Nat) (l : List Pr) (b : Int) (w : World) (B : Nat) (hB : B ≤ w.heap.size) (hh : Hid (PrsAt w B A n l)) :
    Calls Tryz.prog 9 #[.slice A n c, .int .i64 b] w (OutT2 38 w (movS l b)) := by
  have hl := Lib.hid hh.out.1
  obtain ⟨x, hx⟩ : ∃ x, chkSp l = x := ⟨_, rfl⟩
  have HX := Lib.hid hx
  obtain ⟨bp, HP⟩ : ∃ q, Hid ((decide (-10000000000000 ≤ b) && decide (b ≤ 10000000000000)) = q) := ⟨_, rfl⟩
  have HPa : Hid (okPos b = bp) := HP.out
  clear hx
  by_cases h0 : x = 0
  rotate_left
  · have hq : ((x : Int) != 0) = true := by simpa using h0
    have HV : Hid (movS l b = ([], x)) := by show _ = _; unfold movS; rw [HX.out, if_pos h0]
    go_enter Tryz.func9, Tryz.ntmps9
    go_wp2_with (go_at_call 38; refine (CCHECKSPANS_any A n c l _ B hB hh).mono ?_; rintro e w1 ⟨rfl, hb1⟩; rw [HX.out])
    refine bodyPost_ret (v := .tuple #[.slice none 0 0, .int .i64 x]) (by simp [results, Tryz.results9, go_sem]) rfl ?_
    unfold OutT2
    rw [HV.out]
    exact ⟨_, rfl, OwnPrs.nil _ _ _, hb1⟩
  subst h0
  have hn1 : n ≤ 1000 := by rw [← hl.out]; exact chkSp_few HX.out
  have HRG := Lib.hid (fun k hk => chkSp_rng HX.out (k := k) hk)
  cases bp with
  | false =>
    have HV : Hid (movS l b = ([], 1)) := by show _ = _; unfold movS; rw [HX.out, if_neg (by simp), if_pos HPa.out]
    go_enter Tryz.func9, Tryz.ntmps9
    go_wp2_with (first | (go_at_call 38; refine (CCHECKSPANS_any A n c l _ B hB hh).mono ?_; rintro e w1 ⟨rfl, hb1⟩; rw [HX.out]) | (go_at_call 39; refine (ISPOS_any b _).mono ?_; rintro e w2 ⟨rfl, rfl⟩; rw [HP.out]))
    refine bodyPost_ret (v := .tuple #[.slice none 0 0, .int .i64 1]) (by simp [results, Tryz.results9, go_sem]) rfl ?_
    unfold OutT2
    rw [HV.out]
    exact ⟨_, rfl, OwnPrs.nil _ _ _, hb1⟩
  | true =>
  obtain ⟨hp1, hp2⟩ := okPos_le HPa.out
  have HV0 : Hid (movS l b = if l.all (fun p => okPr (shP b p)) then (l.map (shP b), 0) else ([], 1)) := by show _ = _; unfold movS; rw [HX.out, if_neg (by simp), if_neg (by rw [HPa.out]; simp)]
  go_enter Tryz.func9, Tryz.ntmps9
  go_wp2_with (first | (go_at_call 38; refine (CCHECKSPANS_any A n c l _ B hB hh).mono ?_; rintro e w1 ⟨rfl, hb1⟩; rw [HX.out]) | (go_at_call 39; refine (ISPOS_any b _).mono ?_; rintro e w2 ⟨rfl, rfl⟩; rw [HP.out]))
  have HB1 := Lib.hid hb1
  clear hb1
  go_loopw [7, 20] (fun v i wr => ∃ k : Nat, k ≤ n ∧ i = .int .i64 k ∧ Hid (OwnPrs 38 wr w.heap.size v ((l.map (shP b)).take k)) ∧ Hid (∀ j, j < k → okPr (shP b (prOf l j)) = true) ∧ Hid (Below w.heap.size w wr)) (fun _ i _ => n - (intOf i).toNat)
  case atStart => exact ⟨0, Nat.zero_le _, rfl, OwnPrs.nil _ _ _, fun j hj => by omega, HB1⟩
  case round =>
    obtain ⟨k, hk, rfl, hO, HALL, hb⟩ := hrel
    have hsz : w.heap.size ≤ wr.heap.size := hb.out.size
    obtain ⟨A5, c5, rfl, hc5, hc6⟩ := hO.out.len
    by_cases hlt : k < n
    · skip
      obtain ⟨bA, oA, rfl, hbA, k1, k2⟩ := (hh.out.below (hb.out.mono hB) (Nat.le_refl _)).2 k hlt
      have hbAw : bA < wr.heap.size := by omega
      have hkl : k < l.length := by rw [hl.out]; exact hlt
      obtain ⟨hg1, hg2⟩ := HRG.out k hkl
      obtain ⟨p, hp⟩ : ∃ p, prOf l k = p := ⟨_, rfl⟩
      obtain ⟨x, y⟩ := p
      have HPP := Lib.hid hp
      have HST := Lib.hid (sh_take (b := b) hkl hp)
      rw [hp] at k1 k2 hg1 hg2
      dsimp only at k1 k2 hg1 hg2
      have hlen : ((l.map (shP b)).take k).length = k := by rw [List.length_take, List.length_map, hl.out]; omega
      have HLEN := Lib.hid hlen
      rw [hlen] at hO ⊢
      obtain ⟨acc, hacc⟩ : ∃ acc, (l.map (shP b)).take k = acc := ⟨_, rfl⟩
      rw [hacc] at hO HST
      have hk0 : (0 : Int) ≤ (k : Int) := by omega
      have hkn : (k : Int) < (n : Int) := by omega
      have wx : IntKind.i64.wrap (x + b) = x + b := IntWalk.i64_in _ (by omega)
      have wy : IntKind.i64.wrap (y + b) = y + b := IntWalk.i64_in _ (by omega)
      obtain ⟨bx, HXX⟩ : ∃ q, Hid ((decide (-10000000000000 ≤ x + b) && decide (x + b ≤ 10000000000000)) = q) := ⟨_, rfl⟩
      obtain ⟨by_, HYY⟩ : ∃ q, Hid ((decide (-10000000000000 ≤ y + b) && decide (y + b ≤ 10000000000000)) = q) := ⟨_, rfl⟩
      have HOKP : Hid (okPr (shP b (prOf l k)) = (bx && by_)) := by show _ = _; rw [HPP.out]; unfold okPr shP okPos; rw [HXX.out, HYY.out]
      clear hp hacc hlen
      cases bx with
      | false =>
        have HV : Hid (movS l b = ([], 1)) := by show _ = _; rw [HV0.out, if_neg (by rw [all_take_fail hkl (by rw [HOKP.out]; rfl)]; simp)]
        go_wp2_with (first
          | (go_at_call 39; (with_reducible refine (ISPOS_any (x + b) _).mono ?_); rintro e w2 ⟨rfl, rfl⟩; rw [HXX.out])
          | (go_at_call 39; (with_reducible refine (ISPOS_any (y + b) _).mono ?_); rintro e w2 ⟨rfl, rfl⟩; rw [HYY.out]))
        refine bodyPost_ret (v := .tuple #[.slice none 0 0, .int .i64 1]) (by simp [results, Tryz.results9, go_sem]) rfl ?_
        unfold OutT2
        rw [HV.out]
        exact ⟨_, rfl, OwnPrs.nil _ _ _, hb.out.alloc hsz _⟩
      | true =>
      cases by_ with
      | false =>
        have HV : Hid (movS l b = ([], 1)) := by show _ = _; rw [HV0.out, if_neg (by rw [all_take_fail hkl (by rw [HOKP.out]; rfl)]; simp)]
        go_wp2_with (first
          | (go_at_call 39; (with_reducible refine (ISPOS_any (x + b) _).mono ?_); rintro e w2 ⟨rfl, rfl⟩; rw [HXX.out])
          | (go_at_call 39; (with_reducible refine (ISPOS_any (y + b) _).mono ?_); rintro e w2 ⟨rfl, rfl⟩; rw [HYY.out]))
        refine bodyPost_ret (v := .tuple #[.slice none 0 0, .int .i64 1]) (by simp [results, Tryz.results9, go_sem]) rfl ?_
        unfold OutT2
        rw [HV.out]
        exact ⟨_, rfl, OwnPrs.nil _ _ _, hb.out.alloc hsz _⟩
      | true =>
      have HALL2 : Hid (∀ j, j < k + 1 → okPr (shP b (prOf l j)) = true) := fun j hj => by
        by_cases h : j = k
        · rw [h, HOKP.out]; rfl
        · exact HALL.out j (by omega)
      have hoa : Hid (OwnPrs 38 (wr.alloc (.cells #[.int .i64 x, .int .i64 y] 38)) w.heap.size (.slice A5 k c5) acc) := hO.out.below ((Below.refl _ _).alloc (Nat.le_refl _) _)
      have hsb2 : w.heap.size ≤ (wr.alloc (.cells #[.int .i64 x, .int .i64 y] 38)).heap.size := by simp; omega
      have hgs : (wr.alloc (.cells #[.int .i64 x, .int .i64 y] 38)).heap.size = wr.heap.size + 1 := by simp
      have hk9 : k ≤ 5864062014634 := by omega
      clear HALL
      go_wp2_with (first
        | (go_at_call 39; (with_reducible refine (ISPOS_any (x + b) _).mono ?_); rintro e w2 ⟨rfl, rfl⟩; rw [HXX.out])
        | (go_at_call 39; (with_reducible refine (ISPOS_any (y + b) _).mono ?_); rintro e w2 ⟨rfl, rfl⟩; rw [HYY.out])
        | (with_reducible refine wpList_push_span rfl (.tmp 38) (.tmp 48) rfl w.heap.size A5 k c5 acc (x + b) (y + b) (wr.heap.size + 1) hgs rfl rfl hoa.out hk9 hsb2 ?_; intro g5 cap5 w5 hown5 hb5))
      have HB5 := Lib.hid ((hb.out.alloc hsz (.cells #[.int .i64 x, .int .i64 y] 38)).trans hb5)
      rw [← HST.out] at hown5
      have HO5 := Lib.hid hown5
      clear hown5 hb5
      go_roundw
      case rel => exact ⟨k + 1, by omega, by go_num, HO5, HALL2, HB5⟩
      case measure => simp [intOf]; omega
    · obtain rfl : k = n := by omega
      have HV : Hid (movS l b = (l.map (shP b), 0)) := by show _ = _; rw [HV0.out, if_pos (all_of_each (fun j hj => HALL.out j (by rw [hl.out] at hj; exact hj)))]
      go_wp2_with fail
      have e1 : (l.map (shP b)).take k = l.map (shP b) := List.take_of_length_le (by rw [List.length_map, hl.out]; exact Nat.le_refl _)
      rw [e1] at hO ⊢
      refine bodyPost_ret (v := .tuple #[.slice A5 (l.map (shP b)).length c5, .int .i64 0]) (by simp [results, Tryz.results9, go_sem]) rfl ?_
      unfold OutT2
      rw [HV.out]
      exact ⟨_, rfl, hO.out, hb.out⟩
set_option maxRecDepth 100000 in
set_option maxHeartbeats 8000000 in
theorem RMOVED_any (A : Option Addr) (n c : Nat) (l : List Pr) (b : Int) (w : World) (B : Nat) (hB : B ≤ w.heap.size) (hh : Hid (PrsAt w B A n l)) :
    Calls Tryz.prog 10 #[.slice A n c, .int .i64 b] w (OutT2 38 w (movS l b)) := by
  have hl := Lib.hid hh.out.1
  obtain ⟨x, hx⟩ : ∃ x, chkSp l = x := ⟨_, rfl⟩
  have HX := Lib.hid hx
  obtain ⟨bp, HP⟩ : ∃ q, Hid ((decide (-10000000000000 ≤ b) && decide (b ≤ 10000000000000)) = q) := ⟨_, rfl⟩
  have HPa : Hid (okPos b = bp) := HP.out
  clear hx
  by_cases h0 : x = 0
  rotate_left
  · have hq : ((x : Int) != 0) = true := by simpa using h0
    have HV : Hid (movS l b = ([], x)) := by show _ = _; unfold movS; rw [HX.out, if_pos h0]
    go_enter Tryz.func10, Tryz.ntmps10
    go_wp2_with (go_at_call 40; refine (RCHECKSPANS_any A n c l _ B hB hh).mono ?_; rintro e w1 ⟨rfl, hb1⟩; rw [HX.out])
    refine bodyPost_ret (v := .tuple #[.slice none 0 0, .int .i64 x]) (by simp [results, Tryz.results10, go_sem]) rfl ?_
    unfold OutT2
    rw [HV.out]
    exact ⟨_, rfl, OwnPrs.nil _ _ _, hb1⟩
  subst h0
  have hn1 : n ≤ 1000 := by rw [← hl.out]; exact chkSp_few HX.out
  have HRG := Lib.hid (fun k hk => chkSp_rng HX.out (k := k) hk)
  cases bp with
  | false =>
    have HV : Hid (movS l b = ([], 1)) := by show _ = _; unfold movS; rw [HX.out, if_neg (by simp), if_pos HPa.out]
    go_enter Tryz.func10, Tryz.ntmps10
    go_wp2_with (first | (go_at_call 40; refine (RCHECKSPANS_any A n c l _ B hB hh).mono ?_; rintro e w1 ⟨rfl, hb1⟩; rw [HX.out]) | (go_at_call 41; refine (RPOSITION_any b _).mono ?_; rintro e w2 ⟨rfl, rfl⟩; rw [HP.out]))
    refine bodyPost_ret (v := .tuple #[.slice none 0 0, .int .i64 1]) (by simp [results, Tryz.results10, go_sem]) rfl ?_
    unfold OutT2
    rw [HV.out]
    exact ⟨_, rfl, OwnPrs.nil _ _ _, hb1⟩
  | true =>
  obtain ⟨hp1, hp2⟩ := okPos_le HPa.out
  have HV0 : Hid (movS l b = if l.all (fun p => okPr (shP b p)) then (l.map (shP b), 0) else ([], 1)) := by show _ = _; unfold movS; rw [HX.out, if_neg (by simp), if_neg (by rw [HPa.out]; simp)]
  go_enter Tryz.func10, Tryz.ntmps10
  go_wp2_with (first | (go_at_call 40; refine (RCHECKSPANS_any A n c l _ B hB hh).mono ?_; rintro e w1 ⟨rfl, hb1⟩; rw [HX.out]) | (go_at_call 41; refine (RPOSITION_any b _).mono ?_; rintro e w2 ⟨rfl, rfl⟩; rw [HP.out]))
  have HB1 := Lib.hid hb1
  clear hb1
  go_loopw [7, 8] (fun v i wr => ∃ k : Nat, k ≤ n ∧ i = .int .i64 k ∧ Hid (OwnPrs 38 wr w.heap.size v ((l.map (shP b)).take k)) ∧ Hid (∀ j, j < k → okPr (shP b (prOf l j)) = true) ∧ Hid (Below w.heap.size w wr)) (fun _ i _ => n - (intOf i).toNat)
  case atStart => exact ⟨0, Nat.zero_le _, rfl, OwnPrs.nil _ _ _, fun j hj => by omega, HB1⟩
  case round =>
    obtain ⟨k, hk, rfl, hO, HALL, hb⟩ := hrel
    have hsz : w.heap.size ≤ wr.heap.size := hb.out.size
    obtain ⟨A5, c5, rfl, hc5, hc6⟩ := hO.out.len
    by_cases hlt : k < n
    · skip
      obtain ⟨bA, oA, rfl, hbA, k1, k2⟩ := (hh.out.below (hb.out.mono hB) (Nat.le_refl _)).2 k hlt
      have hbAw : bA < wr.heap.size := by omega
      have hkl : k < l.length := by rw [hl.out]; exact hlt
      obtain ⟨hg1, hg2⟩ := HRG.out k hkl
      obtain ⟨p, hp⟩ : ∃ p, prOf l k = p := ⟨_, rfl⟩
      obtain ⟨x, y⟩ := p
      have HPP := Lib.hid hp
      have HST := Lib.hid (sh_take (b := b) hkl hp)
      rw [hp] at k1 k2 hg1 hg2
      dsimp only at k1 k2 hg1 hg2
      have hlen : ((l.map (shP b)).take k).length = k := by rw [List.length_take, List.length_map, hl.out]; omega
      have HLEN := Lib.hid hlen
      rw [hlen] at hO ⊢
      obtain ⟨acc, hacc⟩ : ∃ acc, (l.map (shP b)).take k = acc := ⟨_, rfl⟩
      rw [hacc] at hO HST
      have hk0 : (0 : Int) ≤ (k : Int) := by omega
      have hkn : (k : Int) < (n : Int) := by omega
      have wx : IntKind.i64.wrap (x + b) = x + b := IntWalk.i64_in _ (by omega)
      have wy : IntKind.i64.wrap (y + b) = y + b := IntWalk.i64_in _ (by omega)
      obtain ⟨bx, HXX⟩ : ∃ q, Hid ((decide (-10000000000000 ≤ x + b) && decide (x + b ≤ 10000000000000)) = q) := ⟨_, rfl⟩
      obtain ⟨by_, HYY⟩ : ∃ q, Hid ((decide (-10000000000000 ≤ y + b) && decide (y + b ≤ 10000000000000)) = q) := ⟨_, rfl⟩
      have HOKP : Hid (okPr (shP b (prOf l k)) = (bx && by_)) := by show _ = _; rw [HPP.out]; unfold okPr shP okPos; rw [HXX.out, HYY.out]
      clear hp hacc hlen
      go_upto_region 10 with (fail)
      obtain ⟨W, rfl⟩ : ∃ Wx : World, Wx = wr := ⟨_, rfl⟩
      refine wp_region_text 16 (fun x9 => x9.cell? ⟨bA, oA + k * 2, none⟩ = some (.int .i64 x) ∧ x9.cell? ⟨bA, oA + k * 2 + 1, none⟩ = some (.int .i64 y)) (by kernel_rfl) (by kernel_rfl) ?_
      obtain ⟨X, hX⟩ : ∃ X : World, X = W.drew := ⟨_, rfl⟩
      rw [← hX]
      have hS : X.cell? ⟨bA, oA + k * 2, none⟩ = some (.int .i64 x) ∧ X.cell? ⟨bA, oA + k * 2 + 1, none⟩ = some (.int .i64 y) := by rw [hX]; exact ⟨k1, k2⟩
      have hOd : Hid (OwnPrs 38 X w.heap.size (.slice A5 k c5) acc) := by show OwnPrs _ _ _ _ _; rw [hX]; exact hO.out.below ((Below.refl _ W).drew)
      have hbd : Hid (Below w.heap.size w X) := by show Below _ _ _; rw [hX]; exact hb.out.drew
      have hsx := hbd.out.size
      have hbX : bA < X.heap.size := by omega
      clear hX
      refine HT.take (i := 0) (oi := _) (v := ?_) rfl (by kernel_rfl) (by kernel_rfl) (by decide) (fun _ _ _ h => h) (Or.inl ⟨by rfl, ?_⟩) hS ?_
      rotate_left
      · intro wz
        go_simp
        try with_reducible rfl
      simp only [List.getElem_toArray, List.getElem_cons_succ, List.getElem_cons_zero, Act.put, List.setIfInBounds_toArray, List.set_cons_zero, List.set_cons_succ]
      refine HT.take (i := 1) (oi := _) (v := ?_) rfl (by kernel_rfl) (by kernel_rfl) (by decide) (fun _ _ _ h => h) (Or.inl ⟨by rfl, ?_⟩) hS ?_
      rotate_left
      · intro wz
        go_simp
        try with_reducible rfl
      simp only [List.getElem_toArray, List.getElem_cons_succ, List.getElem_cons_zero, Act.put, List.setIfInBounds_toArray, List.set_cons_zero, List.set_cons_succ]
      refine HT.take (i := 2) (oi := _) (v := ?_) rfl (by kernel_rfl) (by kernel_rfl) (by decide) (fun _ _ _ h => h) (Or.inl ⟨by rfl, ?_⟩) hS ?_
      rotate_left
      · intro wz
        go_simp
        try with_reducible rfl
      simp only [List.getElem_toArray, List.getElem_cons_succ, List.getElem_cons_zero, Act.put, List.setIfInBounds_toArray, List.set_cons_zero, List.set_cons_succ]
      refine HT.take (i := 3) (oi := _) (v := ?_) rfl (by kernel_rfl) (by kernel_rfl) (by decide) (fun _ _ _ h => h) (Or.inl ⟨by rfl, ?_⟩) hS ?_
      rotate_left
      · intro wz
        go_simp
        try with_reducible rfl
      simp only [List.getElem_toArray, List.getElem_cons_succ, List.getElem_cons_zero, Act.put, List.setIfInBounds_toArray, List.set_cons_zero, List.set_cons_succ]
      refine HT.load (i := 4) (oi := _) (v := ?_) rfl (by kernel_rfl) (by kernel_rfl) (by decide) (fun _ _ _ h => h) (by kernel_rfl) (Or.inl ⟨by rfl, ?_⟩) hS ?_
      rotate_left
      · intro wz hwz
        try dsimp only at hwz
        go_simp
        try with_reducible rfl
      simp only [List.getElem_toArray, List.getElem_cons_succ, List.getElem_cons_zero, Act.put, List.setIfInBounds_toArray, List.set_cons_zero, List.set_cons_succ]
      refine HT.take (i := 5) (oi := _) (v := ?_) rfl (by kernel_rfl) (by kernel_rfl) (by decide) (fun _ _ _ h => h) (Or.inl ⟨by rfl, ?_⟩) hS ?_
      rotate_left
      · intro wz
        go_simp
        try with_reducible rfl
      simp only [List.getElem_toArray, List.getElem_cons_succ, List.getElem_cons_zero, Act.put, List.setIfInBounds_toArray, List.set_cons_zero, List.set_cons_succ]
      refine HT.take (i := 6) (oi := _) (v := ?_) rfl (by kernel_rfl) (by kernel_rfl) (by decide) (fun _ _ _ h => h) (Or.inl ⟨by rfl, ?_⟩) hS ?_
      rotate_left
      · intro wz
        go_simp
        try with_reducible rfl
      simp only [List.getElem_toArray, List.getElem_cons_succ, List.getElem_cons_zero, Act.put, List.setIfInBounds_toArray, List.set_cons_zero, List.set_cons_succ]
      refine HT.take (i := 7) (oi := _) (v := ?_) rfl (by kernel_rfl) (by kernel_rfl) (by decide) (fun _ _ _ h => h) (Or.inl ⟨by rfl, ?_⟩) hS ?_
      rotate_left
      · intro wz
        go_simp
        try with_reducible rfl
      simp only [List.getElem_toArray, List.getElem_cons_succ, List.getElem_cons_zero, Act.put, List.setIfInBounds_toArray, List.set_cons_zero, List.set_cons_succ]
      refine HT.take (i := 8) (oi := _) (v := ?_) rfl (by kernel_rfl) (by kernel_rfl) (by decide) (fun _ _ _ h => h) (Or.inl ⟨by rfl, ?_⟩) hS ?_
      rotate_left
      · intro wz
        go_simp
        try with_reducible rfl
      simp only [List.getElem_toArray, List.getElem_cons_succ, List.getElem_cons_zero, Act.put, List.setIfInBounds_toArray, List.set_cons_zero, List.set_cons_succ]
      refine HT.take (i := 9) (oi := _) (v := ?_) rfl (by kernel_rfl) (by kernel_rfl) (by decide) (fun _ _ _ h => h) (Or.inl ⟨by rfl, ?_⟩) hS ?_
      rotate_left
      · intro wz
        go_simp
        try with_reducible rfl
      simp only [List.getElem_toArray, List.getElem_cons_succ, List.getElem_cons_zero, Act.put, List.setIfInBounds_toArray, List.set_cons_zero, List.set_cons_succ]
      refine HT.take (i := 10) (oi := _) (v := ?_) rfl (by kernel_rfl) (by kernel_rfl) (by decide) (fun _ _ _ h => h) (Or.inl ⟨by rfl, ?_⟩) hS ?_
      rotate_left
      · intro wz
        go_simp
        try with_reducible rfl
      simp only [List.getElem_toArray, List.getElem_cons_succ, List.getElem_cons_zero, Act.put, List.setIfInBounds_toArray, List.set_cons_zero, List.set_cons_succ]
      refine HT.load (i := 11) (oi := _) (v := ?_) rfl (by kernel_rfl) (by kernel_rfl) (by decide) (fun _ _ _ h => h) (by kernel_rfl) (Or.inl ⟨by rfl, ?_⟩) hS ?_
      rotate_left
      · intro wz hwz
        try dsimp only at hwz
        go_simp
        try with_reducible rfl
      simp only [List.getElem_toArray, List.getElem_cons_succ, List.getElem_cons_zero, Act.put, List.setIfInBounds_toArray, List.set_cons_zero, List.set_cons_succ]
      refine HT.take (i := 12) (oi := _) (v := ?_) rfl (by kernel_rfl) (by kernel_rfl) (by decide) (fun _ _ _ h => h) (Or.inl ⟨by rfl, ?_⟩) hS ?_
      rotate_left
      · intro wz
        go_simp
        try with_reducible rfl
      simp only [List.getElem_toArray, List.getElem_cons_succ, List.getElem_cons_zero, Act.put, List.setIfInBounds_toArray, List.set_cons_zero, List.set_cons_succ]
      refine HT.take (i := 13) (oi := _) (v := ?_) rfl (by kernel_rfl) (by kernel_rfl) (by decide) (fun _ _ _ h => h) (Or.inl ⟨by rfl, ?_⟩) hS ?_
      rotate_left
      · intro wz
        go_simp
        try with_reducible rfl
      simp only [List.getElem_toArray, List.getElem_cons_succ, List.getElem_cons_zero, Act.put, List.setIfInBounds_toArray, List.set_cons_zero, List.set_cons_succ]
      refine HT.take (i := 14) (oi := _) (v := ?_) rfl (by kernel_rfl) (by kernel_rfl) (by decide) (fun _ _ _ h => h) (Or.inl ⟨by rfl, ?_⟩) hS ?_
      rotate_left
      · intro wz
        go_simp
        try with_reducible rfl
      simp only [List.getElem_toArray, List.getElem_cons_succ, List.getElem_cons_zero, Act.put, List.setIfInBounds_toArray, List.set_cons_zero, List.set_cons_succ]
      refine HT.one (i := 15) (o := _) rfl (by kernel_rfl) (by decide) (by rfl) ?_
      intro K hK
      go_simp
      obtain ⟨Y, ga, hY, hga, HA, HBY, HSY⟩ := cell_new0 X 38 #[.int .i64 0, .int .i64 0]
      rw [← hY, ← hga]
      have hS2 : Y.cell? ⟨bA, oA + k * 2, none⟩ = some (.int .i64 x) ∧ Y.cell? ⟨bA, oA + k * 2 + 1, none⟩ = some (.int .i64 y) := ⟨(HBY.out.cell (p := ⟨bA, oA + k * 2, none⟩) hbX).trans hS.1, (HBY.out.cell (p := ⟨bA, oA + k * 2 + 1, none⟩) hbX).trans hS.2⟩
      refine hK.out _ _ hS2 ?_
      clear hK K hS
      have hS := hS2
      try simp only [List.getElem_toArray, List.getElem_cons_succ, List.getElem_cons_zero, Act.put, List.setIfInBounds_toArray, List.set_cons_zero, List.set_cons_succ]
      refine HT.done (by kernel_rfl) ?_
      clear hS
      simp only [List.drop_succ_cons, List.drop_zero]
      obtain ⟨hr0, hr1, hf0, hf1⟩ := pr_cells HA.out
      have HGA : Hid (w.heap.size ≤ ga) := by show _ ≤ _; rw [hga]; exact hsx
      obtain ⟨Z, hZ⟩ : ∃ Z, Z = (Y.setCell ⟨ga, 0, none⟩ (.int .i64 (x + b))).setCell ⟨ga, 1, none⟩ (.int .i64 (y + b)) := ⟨_, rfl⟩
      have HZH : Hid (Z.heap[ga]? = some (.cells #[.int .i64 (x + b), .int .i64 (y + b)] 38 (0, 0))) := by show _ = _; rw [hZ]; exact heap2_store HA.out
      have HBXZ : Hid (Below X.heap.size X Z) := by show Below _ _ _; rw [hZ]; exact ((HBY.out.setCell (p := ⟨ga, 0, none⟩) (by rw [hga]; exact Nat.le_refl _) _).setCell (p := ⟨ga, 1, none⟩) (by rw [hga]; exact Nat.le_refl _) _)
      have HOZ := Lib.hid (hOd.out.below HBXZ.out)
      have HBZ := Lib.hid (hbd.out.trans (HBXZ.out.mono hsx))
      have hsz2 := HBZ.out.size
      obtain ⟨z0, z1, _, _⟩ := pr_cells HZH.out
      have hgaz := blk_lt HZH.out
      clear hY hga hS2 HBY HSY
      cases bx with
      | false =>
        have HV : Hid (movS l b = ([], 1)) := by show _ = _; rw [HV0.out, if_neg (by rw [all_take_fail hkl (by rw [HOKP.out]; rfl)]; simp)]
        go_upto_region 11 with (fail)
        rw [← hZ]
        clear hr0 hr1 hf0 hf1 hZ
        go_wp2_with (first
          | (go_at_call 41; (with_reducible refine (RPOSITION_any (x + b) _).mono ?_); rintro e w2 ⟨rfl, rfl⟩; rw [HXX.out])
          | (go_at_call 41; (with_reducible refine (RPOSITION_any (y + b) _).mono ?_); rintro e w2 ⟨rfl, rfl⟩; rw [HYY.out]))
        refine bodyPost_ret (v := .tuple #[.slice none 0 0, .int .i64 1]) (by simp [results, Tryz.results10, go_sem]) rfl ?_
        unfold OutT2
        rw [HV.out]
        exact ⟨_, rfl, OwnPrs.nil _ _ _, HBZ.out⟩
      | true =>
      cases by_ with
      | false =>
        have HV : Hid (movS l b = ([], 1)) := by show _ = _; rw [HV0.out, if_neg (by rw [all_take_fail hkl (by rw [HOKP.out]; rfl)]; simp)]
        go_upto_region 11 with (fail)
        rw [← hZ]
        clear hr0 hr1 hf0 hf1 hZ
        go_wp2_with (first
          | (go_at_call 41; (with_reducible refine (RPOSITION_any (x + b) _).mono ?_); rintro e w2 ⟨rfl, rfl⟩; rw [HXX.out])
          | (go_at_call 41; (with_reducible refine (RPOSITION_any (y + b) _).mono ?_); rintro e w2 ⟨rfl, rfl⟩; rw [HYY.out]))
        refine bodyPost_ret (v := .tuple #[.slice none 0 0, .int .i64 1]) (by simp [results, Tryz.results10, go_sem]) rfl ?_
        unfold OutT2
        rw [HV.out]
        exact ⟨_, rfl, OwnPrs.nil _ _ _, HBZ.out⟩
      | true =>
      have HALL2 : Hid (∀ j, j < k + 1 → okPr (shP b (prOf l j)) = true) := fun j hj => by
        by_cases h : j = k
        · rw [h, HOKP.out]; rfl
        · exact HALL.out j (by omega)
      have hk9 : k ≤ 5864062014634 := by omega
      clear HALL
      go_upto_region 11 with (fail)
      rw [← hZ]
      clear hr0 hr1 hf0 hf1 hZ
      go_wp2_with (first
        | (go_at_call 41; (with_reducible refine (RPOSITION_any (x + b) _).mono ?_); rintro e w2 ⟨rfl, rfl⟩; rw [HXX.out])
        | (go_at_call 41; (with_reducible refine (RPOSITION_any (y + b) _).mono ?_); rintro e w2 ⟨rfl, rfl⟩; rw [HYY.out])
        | (with_reducible refine wpList_push_span rfl (.tmp 49) (.tmp 51) rfl w.heap.size A5 k c5 acc (x + b) (y + b) Z.heap.size rfl rfl rfl HOZ.out hk9 hsz2 ?_; intro g5 cap5 w5 hown5 hb5))
      have HB5 := Lib.hid (HBZ.out.trans hb5)
      rw [← HST.out] at hown5
      have HO5 := Lib.hid hown5
      clear hown5 hb5
      go_roundw
      case rel => exact ⟨k + 1, by omega, by go_num, HO5, HALL2, HB5⟩
      case measure => simp [intOf]; omega
    · obtain rfl : k = n := by omega
      have HV : Hid (movS l b = (l.map (shP b), 0)) := by show _ = _; rw [HV0.out, if_pos (all_of_each (fun j hj => HALL.out j (by rw [hl.out] at hj; exact hj)))]
      go_wp2_with fail
      have e1 : (l.map (shP b)).take k = l.map (shP b) := List.take_of_length_le (by rw [List.length_map, hl.out]; exact Nat.le_refl _)
      rw [e1] at hO ⊢
      refine bodyPost_ret (v := .tuple #[.slice A5 (l.map (shP b)).length c5, .int .i64 0]) (by simp [results, Tryz.results10, go_sem]) rfl ?_
      unfold OutT2
      rw [HV.out]
      exact ⟨_, rfl, hO.out, hb.out⟩
end Go.Proofs.YthjmhdnamhifjaaGreatDoor
