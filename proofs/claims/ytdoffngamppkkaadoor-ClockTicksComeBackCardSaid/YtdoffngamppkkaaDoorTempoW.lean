/- CheckTempo, walked. -/
import Derived.Test.YtdoffngamppkkaaDoorTempo
import Derived.Deep.RegionHeld3
import Derived.Deep.CutRange
set_option linter.unusedSimpArgs false
set_option linter.unusedVariables false
namespace Go.Proofs.YtdoffngamppkkaaDoor
open Go.RowKit Go.Dw
def tAt (l : List Pr) (k : Nat) : Int := (prOf l k).1
def tOk (M : Int) (l : List Pr) (k : Nat) : Bool := decide (1 ≤ (prOf l k).2) && decide ((prOf l k).2 ≤ M)
def chkL (M : Int) (l : List Pr) : Int := chkRow (tAt l) (tOk M l) l.length
def chkT (l ms : List Pr) : Int := if chkL 60000000 l ≠ 0 then chkL 60000000 l else chkL 32 ms
theorem fillR_step {w : World} {B gi gb n k : Nat} {fa : Nat → Int} {fr : Nat → Bool} (h : FillR w B gi gb n k fa fr) (hk : k < n) :
    FillR ((w.setCell ⟨gi, k, none⟩ (.int .i64 (fa k))).setCell ⟨gb, k, none⟩ (.bool (fr k))) B gi gb n (k + 1) fa fr ∧
      (w.cell? ⟨gi, k, none⟩ = some (.int .i64 0) ∧ w.frozen? ⟨gi, k, none⟩ = false) ∧ (∀ u, (w.setCell ⟨gi, k, none⟩ u).cell? ⟨gb, k, none⟩ = some (.bool false) ∧ (w.setCell ⟨gi, k, none⟩ u).frozen? ⟨gb, k, none⟩ = false) ∧ B ≤ gi ∧ B ≤ gb := by
  have hd := h
  obtain ⟨h1, h2, h3⟩ := hd.next hk
  refine ⟨h1, ⟨?_, hd.ints.frozenAt k⟩, fun u => ?_, h2, h3⟩
  · rw [hd.ints.cellAt k (by omega)]; simp [fillV, hk]
  · obtain ⟨_, g1⟩ := hd.ints.stored k u
    have hne' := own_ne hd.bools hd.ints (by decide)
    have hb := hd.bools.kept g1 (by rcases hne' with h | h; simp [Value.ownBlock] at h; exact .inr h)
    refine ⟨?_, hb.frozenAt k⟩
    rw [hb.cellAt k (by omega)]; simp [fillV, hk]
set_option maxRecDepth 100000 in
set_option maxHeartbeats 8000000 in
theorem CHECKTEMPO_any (A A' : Option Addr) (n c n' c' : Nat) (l ms : List Pr) (hn : n ≤ 8796093022207) (hn' : n' ≤ 8796093022207) (w : World) (B : Nat) (hB : B ≤ w.heap.size) (hh : Hid (PrsAt w B A n l)) (hh' : Hid (PrsAt w B A' n' ms)) :
    Calls Tryd.prog 26 #[.agg #[.slice A n c, .slice A' n' c']] w fun e w' => e = .returned (.int .i64 (chkT l ms)) ∧ Below w.heap.size w w' := by
  have hl := Lib.hid hh.out.1
  have hl' := Lib.hid hh'.out.1
  have hmi := mkInts n hn
  have hmb := mkBools n hn
  go_enter Tryd.func26, Tryd.ntmps26
  go_wp2_with fail
  obtain ⟨w0, hw0⟩ : ∃ w0, w0 = w.alloc (.cells #[.slice A n c, .slice A' n' c'] 25) := ⟨_, rfl⟩
  have hs0 : w0.heap.size = w.heap.size + 1 := by rw [hw0]; simp
  have hF0 := FillR.start (w := w0) (B := w.heap.size + 1) (n := n) (fa := tAt l) (fr := tOk 60000000 l) (by omega) (by simp [maxLen]; omega)
  have hb0 : Below w.heap.size w w0 := by rw [hw0]; exact (Below.refl _ w).alloc (Nat.le_refl _) _
  have hc0 : w0.cell? ⟨w.heap.size, 0, none⟩ = some (.slice A n c) := by rw [hw0]; simp [go_sem]
  have hc1 : w0.cell? ⟨w.heap.size, 1, none⟩ = some (.slice A' n' c') := by rw [hw0]; simp [go_sem]
  have hx0 : Below (w.heap.size + 1) w0 ((w0.alloc (.cells (madeCells #[.int .i64 0] n) 3)).alloc (.cells (madeCells #[.bool false] n) 4)) := ((Below.refl _ w0).alloc (by omega) _).alloc (by simp; omega) _
  rw [← hw0]
  obtain ⟨W, hW⟩ : ∃ W, W = ((w0.alloc (.cells (madeCells #[.int .i64 0] n) 3)).alloc (.cells (madeCells #[.bool false] n) 4)) := ⟨_, rfl⟩
  rw [← hW] at hF0 hx0 ⊢
  rw [show w.heap.size + 1 = w0.heap.size from hs0.symm] at hF0
  rw [show w.heap.size + 1 + 1 = w0.heap.size + 1 by omega, show w.heap.size + 1 = w0.heap.size from hs0.symm]
  obtain ⟨gi, hgi⟩ : ∃ gi, gi = w0.heap.size := ⟨_, rfl⟩
  obtain ⟨gx, hgx⟩ : ∃ gx, gx = w.heap.size := ⟨_, rfl⟩
  rw [← hgi] at hF0 ⊢
  obtain ⟨gb, hgb⟩ : ∃ gb, gb = gi + 1 := ⟨_, rfl⟩
  rw [← hgb] at hF0 ⊢
  rw [← hgx] at hc0 hc1 ⊢
  have HF0 := Lib.hid hF0
  have HBW : Hid (Below gx w W) := by show Below _ _ _; rw [hgx]; exact hb0.trans (hx0.mono (by omega))
  have HC0 : Hid (W.cell? ⟨gx, 0, none⟩ = some (.slice A n c) ∧ W.cell? ⟨gx, 1, none⟩ = some (.slice A' n' c')) :=
    ⟨(hx0.cell (p := ⟨gx, 0, none⟩) (by dsimp only; omega)).trans hc0, (hx0.cell (p := ⟨gx, 1, none⟩) (by dsimp only; omega)).trans hc1⟩
  have HSW : Hid (gx + 1 ≤ W.heap.size) := by have := hx0.size; show _ ≤ _; omega
  have hgi' : gi = gx + 1 := by omega
  have HGX := Lib.hid hgx
  have HF1 : Hid (FillR W (gx + 1) gi gb n 0 (tAt l) (tOk 60000000 l)) := by rw [← hgi']; exact HF0.out
  clear hF0 hb0 hc0 hc1 hx0 hW hgb hs0 hw0 hgi' hmi hmb hgx HF0 hgi
  clear w0
  have HPL : Hid (PrsAt W (gx + 1) A n l) := (hh.out.below HBW.out (by rw [HGX.out]; exact hB)).mono (by have := HGX.out; omega)
  go_loopw [21] (fun i wr => ∃ k : Nat, k ≤ n ∧ i = .int .i64 k ∧ Hid (FillR wr (gx + 1) gi gb n k (tAt l) (tOk 60000000 l)) ∧ Hid (Below (gx + 1) W wr)) (fun i _ => n - (intOf i).toNat)
  case atStart => exact ⟨0, Nat.zero_le _, rfl, HF1, Below.refl _ _⟩
  case round =>
    obtain ⟨k, hk, rfl, hF, hb⟩ := hrel
    have hsz : gx + 1 ≤ wr.heap.size := Nat.le_trans HSW.out hb.out.size
    by_cases hlt : k < n
    · clear HF1
      obtain ⟨bA, oA, rfl, hbA, k1, k2⟩ := (HPL.out.below hb.out (Nat.le_refl _)).2 k hlt
      have hA1 : tAt l k = (prOf l k).1 := rfl
      have hA2 : tOk 60000000 l k = (decide (1 ≤ (prOf l k).2) && decide ((prOf l k).2 ≤ 60000000)) := rfl
      have HN : Hid (∀ W1 : World, W1 = wr.alloc (.cells #[.int .i64 (prOf l k).1, .int .i64 (prOf l k).2] 68) → (FillR ((W1.setCell ⟨gi, k, none⟩ (.int .i64 (tAt l k))).setCell ⟨gb, k, none⟩ (.bool (tOk 60000000 l k))) (gx + 1) gi gb n (k + 1) (tAt l) (tOk 60000000 l) ∧
          (W1.cell? ⟨gi, k, none⟩ = some (.int .i64 0) ∧ W1.frozen? ⟨gi, k, none⟩ = false) ∧ (∀ u, (W1.setCell ⟨gi, k, none⟩ u).cell? ⟨gb, k, none⟩ = some (.bool false) ∧ (W1.setCell ⟨gi, k, none⟩ u).frozen? ⟨gb, k, none⟩ = false) ∧ gx + 1 ≤ gi ∧ gx + 1 ≤ gb)) := fun W1 hW1 => by
        have h1 : FillR W1 (gx + 1) gi gb n k (tAt l) (tOk 60000000 l) := by rw [hW1]; exact hF.out.below ((Below.refl _ _).alloc (Nat.le_refl _) _)
        exact fillR_step h1 hlt
      rw [hA1, hA2] at HN
      clear hA1 hA2
      obtain ⟨p, hp⟩ : ∃ p, prOf l k = p := ⟨_, rfl⟩
      rw [hp] at k1 k2 HN
      clear hp
      obtain ⟨a, m⟩ := p
      dsimp only at k1 k2 HN
      have hk0 : (0 : Int) ≤ (k : Int) := by omega
      have hkn : (k : Int) < (n : Int) := by omega
      go_upto_region 6 with (fail)
      obtain ⟨X, hX⟩ : ∃ X, X = wr.alloc (.cells #[.int .i64 a, .int .i64 m] 68) := ⟨_, rfl⟩
      obtain ⟨gy, hgy⟩ : ∃ gy, gy = wr.heap.size := ⟨_, rfl⟩
      have hS : X.drew.cell? ⟨gy, 0, none⟩ = some (.int .i64 a) ∧ X.drew.cell? ⟨gy, 1, none⟩ = some (.int .i64 m) := by rw [hX, hgy]; simp [go_sem]
      have hS0 : X.cell? ⟨gy, 0, none⟩ = some (.int .i64 a) ∧ X.cell? ⟨gy, 1, none⟩ = some (.int .i64 m) := hS
      have hgi : gi < gy := by rw [hgy]; exact (own_lt hF.out.ints rfl).2
      have hgb : gb < gy := by rw [hgy]; exact (own_lt hF.out.bools rfl).2
      have HX := HN.out X hX
      have HXB2 : Hid (Below (gx + 1) W X) := by show Below _ _ _; rw [hX]; exact hb.out.alloc hsz _
      rw [← hX, ← hgy]
      clear HN hF hb hX hgy hbA k1 k2
      obtain ⟨hX1, ⟨hX2, hX3⟩, hX4, hX5, hX6⟩ := HX
      obtain ⟨hX7, hX8⟩ := hX4 (.int .i64 a)
      by_cases hm1 : 1 ≤ m
      · rw [show decide (1 ≤ m) = true by simp; omega, Bool.true_and] at hX1
        have HX1 := Lib.hid hX1
        clear hX1
        refine wp_region_text 16 (fun x => x.cell? ⟨gy, 0, none⟩ = some (.int .i64 a) ∧ x.cell? ⟨gy, 1, none⟩ = some (.int .i64 m)) (by kernel_rfl) (by kernel_rfl) ?_
        refine HT.take (i := 0) (oi := _) (v := ?_) rfl (by kernel_rfl) (by kernel_rfl) (by decide) (fun _ _ _ h => h) (Or.inl ⟨by rfl, ?_⟩) hS ?_
        rotate_left
        · intro wz
          go_simp
          try with_reducible rfl
        simp only [List.getElem_toArray, List.getElem_cons_succ, List.getElem_cons_zero, Act.put, List.setIfInBounds_toArray, List.set_cons_zero, List.set_cons_succ]
        refine HT.take (i := 1) (oi := _) (v := ?_) rfl (by kernel_rfl) (by kernel_rfl) (by decide) (fun _ _ _ h => h) (Or.inl ⟨by rfl, ?_⟩) hS ?_
        rotate_left
        · intro wz
          go_simp
          try with_reducible rfl
        simp only [List.getElem_toArray, List.getElem_cons_succ, List.getElem_cons_zero, Act.put, List.setIfInBounds_toArray, List.set_cons_zero, List.set_cons_succ]
        refine HT.take (i := 2) (oi := _) (v := ?_) rfl (by kernel_rfl) (by kernel_rfl) (by decide) (fun _ _ _ h => h) (Or.inl ⟨by rfl, ?_⟩) hS ?_
        rotate_left
        · intro wz
          go_simp
          try with_reducible rfl
        simp only [List.getElem_toArray, List.getElem_cons_succ, List.getElem_cons_zero, Act.put, List.setIfInBounds_toArray, List.set_cons_zero, List.set_cons_succ]
        refine HT.take (i := 3) (oi := _) (v := ?_) rfl (by kernel_rfl) (by kernel_rfl) (by decide) (fun _ _ _ h => h) (Or.inl ⟨by rfl, ?_⟩) hS ?_
        rotate_left
        · intro wz
          go_simp
          try with_reducible rfl
        simp only [List.getElem_toArray, List.getElem_cons_succ, List.getElem_cons_zero, Act.put, List.setIfInBounds_toArray, List.set_cons_zero, List.set_cons_succ]
        refine HT.take (i := 4) (oi := _) (v := ?_) rfl (by kernel_rfl) (by kernel_rfl) (by decide) (fun _ _ _ h => h) (Or.inl ⟨by rfl, ?_⟩) hS ?_
        rotate_left
        · intro wz
          go_simp
          try with_reducible rfl
        simp only [List.getElem_toArray, List.getElem_cons_succ, List.getElem_cons_zero, Act.put, List.setIfInBounds_toArray, List.set_cons_zero, List.set_cons_succ]
        refine HT.load (i := 5) (oi := _) (v := ?_) rfl (by kernel_rfl) (by kernel_rfl) (by decide) (fun _ _ _ h => h) (by kernel_rfl) (Or.inl ⟨by rfl, ?_⟩) hS ?_
        rotate_left
        · intro wz hwz
          try dsimp only at hwz
          go_simp
          try with_reducible rfl
        simp only [List.getElem_toArray, List.getElem_cons_succ, List.getElem_cons_zero, Act.put, List.setIfInBounds_toArray, List.set_cons_zero, List.set_cons_succ]
        refine HT.take (i := 6) (oi := _) (v := ?_) rfl (by kernel_rfl) (by kernel_rfl) (by decide) (fun _ _ _ h => h) (Or.inl ⟨by rfl, ?_⟩) hS ?_
        rotate_left
        · intro wz
          go_simp
          try with_reducible rfl
        simp only [List.getElem_toArray, List.getElem_cons_succ, List.getElem_cons_zero, Act.put, List.setIfInBounds_toArray, List.set_cons_zero, List.set_cons_succ]
        refine HT.load (i := 7) (oi := _) (v := ?_) rfl (by kernel_rfl) (by kernel_rfl) (by decide) (fun _ _ _ h => h) (by kernel_rfl) (Or.inl ⟨by rfl, ?_⟩) hS ?_
        rotate_left
        · intro wz hwz
          try dsimp only at hwz
          go_simp
          try with_reducible rfl
        simp only [List.getElem_toArray, List.getElem_cons_succ, List.getElem_cons_zero, Act.put, List.setIfInBounds_toArray, List.set_cons_zero, List.set_cons_succ]
        refine HT.take (i := 8) (oi := _) (v := ?_) rfl (by kernel_rfl) (by kernel_rfl) (by decide) (fun _ _ _ h => h) (Or.inl ⟨by rfl, ?_⟩) hS ?_
        rotate_left
        · intro wz
          go_simp
          try with_reducible rfl
        simp only [List.getElem_toArray, List.getElem_cons_succ, List.getElem_cons_zero, Act.put, List.setIfInBounds_toArray, List.set_cons_zero, List.set_cons_succ]
        refine HT.take (i := 9) (oi := _) (v := ?_) rfl (by kernel_rfl) (by kernel_rfl) (by decide) (fun _ _ _ h => h) (Or.inl ⟨by rfl, ?_⟩) hS ?_
        rotate_left
        · intro wz
          go_simp
          try with_reducible rfl
        simp only [List.getElem_toArray, List.getElem_cons_succ, List.getElem_cons_zero, Act.put, List.setIfInBounds_toArray, List.set_cons_zero, List.set_cons_succ]
        refine HT.take (i := 10) (oi := _) (v := ?_) rfl (by kernel_rfl) (by kernel_rfl) (by decide) (fun _ _ _ h => h) (Or.inl ⟨by rfl, ?_⟩) hS ?_
        rotate_left
        · intro wz
          go_simp
          try with_reducible rfl
        simp only [List.getElem_toArray, List.getElem_cons_succ, List.getElem_cons_zero, Act.put, List.setIfInBounds_toArray, List.set_cons_zero, List.set_cons_succ]
        refine HT.load (i := 11) (oi := _) (v := ?_) rfl (by kernel_rfl) (by kernel_rfl) (by decide) (fun _ _ _ h => h) (by kernel_rfl) (Or.inl ⟨by rfl, ?_⟩) hS ?_
        rotate_left
        · intro wz hwz
          try dsimp only at hwz
          go_simp
          try with_reducible rfl
        simp only [List.getElem_toArray, List.getElem_cons_succ, List.getElem_cons_zero, Act.put, List.setIfInBounds_toArray, List.set_cons_zero, List.set_cons_succ]
        refine HT.take (i := 12) (oi := _) (v := ?_) rfl (by kernel_rfl) (by kernel_rfl) (by decide) (fun _ _ _ h => h) (Or.inl ⟨by rfl, ?_⟩) hS ?_
        rotate_left
        · intro wz
          go_simp
          try with_reducible rfl
        simp only [List.getElem_toArray, List.getElem_cons_succ, List.getElem_cons_zero, Act.put, List.setIfInBounds_toArray, List.set_cons_zero, List.set_cons_succ]
        refine HT.take (i := 13) (oi := _) (v := ?_) rfl (by kernel_rfl) (by kernel_rfl) (by decide) (fun _ _ _ h => h) (Or.inl ⟨by rfl, ?_⟩) hS ?_
        rotate_left
        · intro wz
          go_simp
          try with_reducible rfl
        simp only [List.getElem_toArray, List.getElem_cons_succ, List.getElem_cons_zero, Act.put, List.setIfInBounds_toArray, List.set_cons_zero, List.set_cons_succ]
        refine HT.take (i := 14) (oi := _) (v := ?_) rfl (by kernel_rfl) (by kernel_rfl) (by decide) (fun _ _ _ h => h) (Or.inl ⟨by rfl, ?_⟩) hS ?_
        rotate_left
        · intro wz
          go_simp
          try with_reducible rfl
        simp only [List.getElem_toArray, List.getElem_cons_succ, List.getElem_cons_zero, Act.put, List.setIfInBounds_toArray, List.set_cons_zero, List.set_cons_succ]
        refine HT.one (i := 15) (o := _) rfl (by kernel_rfl) (by decide) (by rfl) ?_
        intro K hK
        go_simp
        refine hK.out _ _ ?_ ?_
        · skip
          simp only [World.cell?_drew]
          rw [World.cell?_setCell_other _ _ _ _ (by first | (simp; done) | (simp; omega)), World.cell?_setCell_other _ _ _ _ (by first | (simp; done) | (simp; omega))]
          exact hS0
        clear hK K
        try simp only [List.getElem_toArray, List.getElem_cons_succ, List.getElem_cons_zero, Act.put, List.setIfInBounds_toArray, List.set_cons_zero, List.set_cons_succ]
        have hS := hS0
        refine HT.done (by kernel_rfl) ?_
        clear hS
        simp only [List.drop_succ_cons, List.drop_zero]
        go_wp2_with fail
        go_roundw
        case rel =>
          refine ⟨k + 1, by omega, by go_num, ⟨HX1.out.ints, HX1.out.bools⟩, ?_⟩
          exact ((HXB2.out.setCell (by dsimp only; omega) _).setCell (by dsimp only; omega) _).drew
        case measure => simp [intOf]; omega
      · rw [show decide (1 ≤ m) = false by simp; omega, Bool.false_and] at hX1
        have HX1 := Lib.hid hX1
        clear hX1
        refine wp_region_text 16 (fun x => x.cell? ⟨gy, 0, none⟩ = some (.int .i64 a) ∧ x.cell? ⟨gy, 1, none⟩ = some (.int .i64 m)) (by kernel_rfl) (by kernel_rfl) ?_
        refine HT.take (i := 0) (oi := _) (v := ?_) rfl (by kernel_rfl) (by kernel_rfl) (by decide) (fun _ _ _ h => h) (Or.inl ⟨by rfl, ?_⟩) hS ?_
        rotate_left
        · intro wz
          go_simp
          try with_reducible rfl
        simp only [List.getElem_toArray, List.getElem_cons_succ, List.getElem_cons_zero, Act.put, List.setIfInBounds_toArray, List.set_cons_zero, List.set_cons_succ]
        refine HT.take (i := 1) (oi := _) (v := ?_) rfl (by kernel_rfl) (by kernel_rfl) (by decide) (fun _ _ _ h => h) (Or.inl ⟨by rfl, ?_⟩) hS ?_
        rotate_left
        · intro wz
          go_simp
          try with_reducible rfl
        simp only [List.getElem_toArray, List.getElem_cons_succ, List.getElem_cons_zero, Act.put, List.setIfInBounds_toArray, List.set_cons_zero, List.set_cons_succ]
        refine HT.take (i := 2) (oi := _) (v := ?_) rfl (by kernel_rfl) (by kernel_rfl) (by decide) (fun _ _ _ h => h) (Or.inl ⟨by rfl, ?_⟩) hS ?_
        rotate_left
        · intro wz
          go_simp
          try with_reducible rfl
        simp only [List.getElem_toArray, List.getElem_cons_succ, List.getElem_cons_zero, Act.put, List.setIfInBounds_toArray, List.set_cons_zero, List.set_cons_succ]
        refine HT.take (i := 3) (oi := _) (v := ?_) rfl (by kernel_rfl) (by kernel_rfl) (by decide) (fun _ _ _ h => h) (Or.inl ⟨by rfl, ?_⟩) hS ?_
        rotate_left
        · intro wz
          go_simp
          try with_reducible rfl
        simp only [List.getElem_toArray, List.getElem_cons_succ, List.getElem_cons_zero, Act.put, List.setIfInBounds_toArray, List.set_cons_zero, List.set_cons_succ]
        refine HT.take (i := 4) (oi := _) (v := ?_) rfl (by kernel_rfl) (by kernel_rfl) (by decide) (fun _ _ _ h => h) (Or.inl ⟨by rfl, ?_⟩) hS ?_
        rotate_left
        · intro wz
          go_simp
          try with_reducible rfl
        simp only [List.getElem_toArray, List.getElem_cons_succ, List.getElem_cons_zero, Act.put, List.setIfInBounds_toArray, List.set_cons_zero, List.set_cons_succ]
        refine HT.load (i := 5) (oi := _) (v := ?_) rfl (by kernel_rfl) (by kernel_rfl) (by decide) (fun _ _ _ h => h) (by kernel_rfl) (Or.inl ⟨by rfl, ?_⟩) hS ?_
        rotate_left
        · intro wz hwz
          try dsimp only at hwz
          go_simp
          try with_reducible rfl
        simp only [List.getElem_toArray, List.getElem_cons_succ, List.getElem_cons_zero, Act.put, List.setIfInBounds_toArray, List.set_cons_zero, List.set_cons_succ]
        refine HT.take (i := 6) (oi := _) (v := ?_) rfl (by kernel_rfl) (by kernel_rfl) (by decide) (fun _ _ _ h => h) (Or.inl ⟨by rfl, ?_⟩) hS ?_
        rotate_left
        · intro wz
          go_simp
          try with_reducible rfl
        simp only [List.getElem_toArray, List.getElem_cons_succ, List.getElem_cons_zero, Act.put, List.setIfInBounds_toArray, List.set_cons_zero, List.set_cons_succ]
        refine HT.load (i := 7) (oi := _) (v := ?_) rfl (by kernel_rfl) (by kernel_rfl) (by decide) (fun _ _ _ h => h) (by kernel_rfl) (Or.inl ⟨by rfl, ?_⟩) hS ?_
        rotate_left
        · intro wz hwz
          try dsimp only at hwz
          go_simp
          try with_reducible rfl
        simp only [List.getElem_toArray, List.getElem_cons_succ, List.getElem_cons_zero, Act.put, List.setIfInBounds_toArray, List.set_cons_zero, List.set_cons_succ]
        refine HT.take (i := 8) (oi := _) (v := ?_) rfl (by kernel_rfl) (by kernel_rfl) (by decide) (fun _ _ _ h => h) (Or.inl ⟨by rfl, ?_⟩) hS ?_
        rotate_left
        · intro wz
          go_simp
          try with_reducible rfl
        simp only [List.getElem_toArray, List.getElem_cons_succ, List.getElem_cons_zero, Act.put, List.setIfInBounds_toArray, List.set_cons_zero, List.set_cons_succ]
        refine HT.take (i := 9) (oi := _) (v := ?_) rfl (by kernel_rfl) (by kernel_rfl) (by decide) (fun _ _ _ h => h) (Or.inl ⟨by rfl, ?_⟩) hS ?_
        rotate_left
        · intro wz
          go_simp
          try with_reducible rfl
        simp only [List.getElem_toArray, List.getElem_cons_succ, List.getElem_cons_zero, Act.put, List.setIfInBounds_toArray, List.set_cons_zero, List.set_cons_succ]
        refine HT.take (i := 10) (oi := _) (v := undef) rfl (by kernel_rfl) (by kernel_rfl) (by decide) (fun _ _ _ h => h) (Or.inr ⟨by rfl, rfl⟩) hS ?_
        simp only [List.getElem_toArray, List.getElem_cons_succ, List.getElem_cons_zero, Act.put, List.setIfInBounds_toArray, List.set_cons_zero, List.set_cons_succ]
        refine HT.take (i := 11) (oi := _) (v := undef) rfl (by kernel_rfl) (by kernel_rfl) (by decide) (fun _ _ _ h => h) (Or.inr ⟨by rfl, rfl⟩) hS ?_
        simp only [List.getElem_toArray, List.getElem_cons_succ, List.getElem_cons_zero, Act.put, List.setIfInBounds_toArray, List.set_cons_zero, List.set_cons_succ]
        refine HT.take (i := 12) (oi := _) (v := undef) rfl (by kernel_rfl) (by kernel_rfl) (by decide) (fun _ _ _ h => h) (Or.inr ⟨by rfl, rfl⟩) hS ?_
        simp only [List.getElem_toArray, List.getElem_cons_succ, List.getElem_cons_zero, Act.put, List.setIfInBounds_toArray, List.set_cons_zero, List.set_cons_succ]
        refine HT.take (i := 13) (oi := _) (v := ?_) rfl (by kernel_rfl) (by kernel_rfl) (by decide) (fun _ _ _ h => h) (Or.inl ⟨by rfl, ?_⟩) hS ?_
        rotate_left
        · intro wz
          go_simp
          try with_reducible rfl
        simp only [List.getElem_toArray, List.getElem_cons_succ, List.getElem_cons_zero, Act.put, List.setIfInBounds_toArray, List.set_cons_zero, List.set_cons_succ]
        refine HT.take (i := 14) (oi := _) (v := ?_) rfl (by kernel_rfl) (by kernel_rfl) (by decide) (fun _ _ _ h => h) (Or.inl ⟨by rfl, ?_⟩) hS ?_
        rotate_left
        · intro wz
          go_simp
          try with_reducible rfl
        simp only [List.getElem_toArray, List.getElem_cons_succ, List.getElem_cons_zero, Act.put, List.setIfInBounds_toArray, List.set_cons_zero, List.set_cons_succ]
        refine HT.one (i := 15) (o := _) rfl (by kernel_rfl) (by decide) (by rfl) ?_
        intro K hK
        go_simp
        refine hK.out _ _ ?_ ?_
        · skip
          simp only [World.cell?_drew]
          rw [World.cell?_setCell_other _ _ _ _ (by first | (simp; done) | (simp; omega)), World.cell?_setCell_other _ _ _ _ (by first | (simp; done) | (simp; omega))]
          exact hS0
        clear hK K
        try simp only [List.getElem_toArray, List.getElem_cons_succ, List.getElem_cons_zero, Act.put, List.setIfInBounds_toArray, List.set_cons_zero, List.set_cons_succ]
        have hS := hS0
        refine HT.done (by kernel_rfl) ?_
        clear hS
        simp only [List.drop_succ_cons, List.drop_zero]
        go_wp2_with fail
        go_roundw
        case rel =>
          refine ⟨k + 1, by omega, by go_num, ⟨HX1.out.ints, HX1.out.bools⟩, ?_⟩
          exact ((HXB2.out.setCell (by dsimp only; omega) _).setCell (by dsimp only; omega) _).drew
        case measure => simp [intOf]; omega
    · obtain rfl : k = n := by omega
      obtain ⟨hd1, hd2⟩ := hF.out.done
      have HD1 := Lib.hid hd1
      have HD2 := Lib.hid hd2
      clear hd1 hd2 hF
      obtain ⟨q, hq⟩ : ∃ q, chkRow (tAt l) (tOk 60000000 l) k = q := ⟨_, rfl⟩
      have HQ := Lib.hid hq
      have HQ2 : Hid (chkL 60000000 l = q) := by show _ = _; unfold chkL; rw [hl.out]; exact hq
      clear hq
      by_cases hq0 : q = 0
      · subst hq0
        have hc1 : wr.cell? ⟨gx, 1, none⟩ = some (.slice A' n' c') := (hb.out.cell (p := ⟨gx, 1, none⟩) (by dsimp only; omega)).trans HC0.out.2
        have hsW := hsz
        have hmi := mkInts n' hn'
        have hmb := mkBools n' hn'
        have HSa := Lib.hid (FillR.start (w := wr) (B := gx + 1) (n := n') (fa := tAt ms) (fr := tOk 32 ms) hsz (by simp [maxLen]; omega))
        have HSb := Lib.hid (FillR.start2 (w := wr) (B := gx + 1) (n := n') (fa := tAt ms) (fr := tOk 32 ms) hsz (by simp [maxLen]; omega))
        go_upto_region 11 with (go_at_call 46; refine (CHECKROWS_any _ _ _ _ _ (tAt l) (tOk 60000000 l) _ HD1 HD2).mono ?_; rintro e w1 ⟨rfl, rfl⟩; rw [HQ.out])
        go_cut [3, 4] from 49 (fun a3 a4 wx => ∃ gi gb, a3 = .slice (some ⟨gi, 0, none⟩) n' n' ∧ a4 = .slice (some ⟨gb, 0, none⟩) n' n' ∧ Hid (FillR wx (gx + 1) gi gb n' 0 (tAt ms) (tOk 32 ms)) ∧ Hid (Below (gx + 1) wr wx))
        case first =>
          go_region_held3 (fun w' => Below (gx + 1) wr w' ∧ ∀ z : Addr, z.block < gx + 1 → w'.cell? z = wr.cell? z)
            ((refine (fun h => ⟨h, pcell h⟩) ?_; repeat (first | assumption | exact Below.refl _ _ | (refine Below.drew ?_) | (refine Below.alloc ?_ (by first | omega | (simp; omega) | exact Nat.le_trans hsW (Below.size (by assumption)) | (simp only [World.size_drew, World.size_alloc]; exact Nat.le_trans hsW (Nat.le_succ_of_le (Below.size (by assumption))))) _) | (refine Below.setCell ?_ (by first | omega | (simp; omega) | exact Nat.le_trans hsW (Below.size (by assumption))) _))))
            (fail)
          all_goals (go_wp2_with fail; go_meet)
          all_goals first
            | exact ⟨_, _, rfl, rfl, ⟨HSa.out.ints, HSa.out.bools⟩, (‹Below (gx + 1) wr _ ∧ _›).1⟩
            | exact ⟨_, _, rfl, rfl, ⟨HSb.out.ints, HSb.out.bools⟩, (‹Below (gx + 1) wr _ ∧ _›).1⟩
        case rest =>
          clear HD1 HD2 HQ HF1
          obtain ⟨gi, gb, rfl, rfl, hFc, hbc⟩ := hcut
          clear hmi hmb hsW HSa HSb
          have hc2 : wc.cell? ⟨gx, 1, none⟩ = some (.slice A' n' c') := (hbc.out.cell (p := ⟨gx, 1, none⟩) (by dsimp only; omega)).trans hc1
          have HBc : Hid (Below w.heap.size w wc) := by
            show Below _ _ _
            rw [← HGX.out]
            exact HBW.out.trans ((hb.out.trans hbc.out).mono (by omega))
          have HSc : Hid (gx + 1 ≤ wc.heap.size) := Nat.le_trans hsz hbc.out.size
          have HPM : Hid (PrsAt wc (gx + 1) A' n' ms) := (hh'.out.below HBc.out hB).mono (by have := HGX.out; omega)
          clear hbc hb hc1 hsz
          go_wp2_with fail
          clear hc2 HC0 HPL HSW hh hl HBW hk hlt
          go_loopw [60] (fun i wr => ∃ k : Nat, k ≤ n' ∧ i = .int .i64 k ∧ Hid (FillR wr (gx + 1) gi gb n' k (tAt ms) (tOk 32 ms)) ∧ Hid (Below (gx + 1) wc wr)) (fun i _ => n' - (intOf i).toNat)
          case atStart => exact ⟨0, Nat.zero_le _, rfl, hFc, Below.refl _ _⟩
          case round =>
            obtain ⟨k, hk, rfl, hF, hb⟩ := hrel
            have hsz : gx + 1 ≤ wr.heap.size := Nat.le_trans HSc.out hb.out.size
            by_cases hlt : k < n'
            · clear hFc
              obtain ⟨bA, oA, rfl, hbA, k1, k2⟩ := (HPM.out.below hb.out (Nat.le_refl _)).2 k hlt
              have hA1 : tAt ms k = (prOf ms k).1 := rfl
              have hA2 : tOk 32 ms k = (decide (1 ≤ (prOf ms k).2) && decide ((prOf ms k).2 ≤ 32)) := rfl
              have HN : Hid (∀ W1 : World, W1 = wr.alloc (.cells #[.int .i64 (prOf ms k).1, .int .i64 (prOf ms k).2] 55) → (FillR ((W1.setCell ⟨gi, k, none⟩ (.int .i64 (tAt ms k))).setCell ⟨gb, k, none⟩ (.bool (tOk 32 ms k))) (gx + 1) gi gb n' (k + 1) (tAt ms) (tOk 32 ms) ∧
                  (W1.cell? ⟨gi, k, none⟩ = some (.int .i64 0) ∧ W1.frozen? ⟨gi, k, none⟩ = false) ∧ (∀ u, (W1.setCell ⟨gi, k, none⟩ u).cell? ⟨gb, k, none⟩ = some (.bool false) ∧ (W1.setCell ⟨gi, k, none⟩ u).frozen? ⟨gb, k, none⟩ = false) ∧ gx + 1 ≤ gi ∧ gx + 1 ≤ gb)) := fun W1 hW1 => by
                have h1 : FillR W1 (gx + 1) gi gb n' k (tAt ms) (tOk 32 ms) := by rw [hW1]; exact hF.out.below ((Below.refl _ _).alloc (Nat.le_refl _) _)
                exact fillR_step h1 hlt
              rw [hA1, hA2] at HN
              clear hA1 hA2
              obtain ⟨p, hp⟩ : ∃ p, prOf ms k = p := ⟨_, rfl⟩
              rw [hp] at k1 k2 HN
              clear hp
              obtain ⟨a, m⟩ := p
              dsimp only at k1 k2 HN
              have hk0 : (0 : Int) ≤ (k : Int) := by omega
              have hkn : (k : Int) < (n' : Int) := by omega
              go_upto_region 15 with (fail)
              obtain ⟨X, hX⟩ : ∃ X, X = wr.alloc (.cells #[.int .i64 a, .int .i64 m] 55) := ⟨_, rfl⟩
              obtain ⟨gy, hgy⟩ : ∃ gy, gy = wr.heap.size := ⟨_, rfl⟩
              have hS : X.drew.cell? ⟨gy, 0, none⟩ = some (.int .i64 a) ∧ X.drew.cell? ⟨gy, 1, none⟩ = some (.int .i64 m) := by rw [hX, hgy]; simp [go_sem]
              have hS0 : X.cell? ⟨gy, 0, none⟩ = some (.int .i64 a) ∧ X.cell? ⟨gy, 1, none⟩ = some (.int .i64 m) := hS
              have hgi : gi < gy := by rw [hgy]; exact (own_lt hF.out.ints rfl).2
              have hgb : gb < gy := by rw [hgy]; exact (own_lt hF.out.bools rfl).2
              have HX := HN.out X hX
              have HXB2 : Hid (Below (gx + 1) wc X) := by show Below _ _ _; rw [hX]; exact hb.out.alloc hsz _
              rw [← hX, ← hgy]
              clear HN hF hb hX hgy hbA k1 k2
              obtain ⟨hX1, ⟨hX2, hX3⟩, hX4, hX5, hX6⟩ := HX
              obtain ⟨hX7, hX8⟩ := hX4 (.int .i64 a)
              by_cases hm1 : 1 ≤ m
              · rw [show decide (1 ≤ m) = true by simp; omega, Bool.true_and] at hX1
                have HX1 := Lib.hid hX1
                clear hX1
                refine wp_region_text 16 (fun x => x.cell? ⟨gy, 0, none⟩ = some (.int .i64 a) ∧ x.cell? ⟨gy, 1, none⟩ = some (.int .i64 m)) (by kernel_rfl) (by kernel_rfl) ?_
                refine HT.take (i := 0) (oi := _) (v := ?_) rfl (by kernel_rfl) (by kernel_rfl) (by decide) (fun _ _ _ h => h) (Or.inl ⟨by rfl, ?_⟩) hS ?_
                rotate_left
                · intro wz
                  go_simp
                  try with_reducible rfl
                simp only [List.getElem_toArray, List.getElem_cons_succ, List.getElem_cons_zero, Act.put, List.setIfInBounds_toArray, List.set_cons_zero, List.set_cons_succ]
                refine HT.take (i := 1) (oi := _) (v := ?_) rfl (by kernel_rfl) (by kernel_rfl) (by decide) (fun _ _ _ h => h) (Or.inl ⟨by rfl, ?_⟩) hS ?_
                rotate_left
                · intro wz
                  go_simp
                  try with_reducible rfl
                simp only [List.getElem_toArray, List.getElem_cons_succ, List.getElem_cons_zero, Act.put, List.setIfInBounds_toArray, List.set_cons_zero, List.set_cons_succ]
                refine HT.take (i := 2) (oi := _) (v := ?_) rfl (by kernel_rfl) (by kernel_rfl) (by decide) (fun _ _ _ h => h) (Or.inl ⟨by rfl, ?_⟩) hS ?_
                rotate_left
                · intro wz
                  go_simp
                  try with_reducible rfl
                simp only [List.getElem_toArray, List.getElem_cons_succ, List.getElem_cons_zero, Act.put, List.setIfInBounds_toArray, List.set_cons_zero, List.set_cons_succ]
                refine HT.take (i := 3) (oi := _) (v := ?_) rfl (by kernel_rfl) (by kernel_rfl) (by decide) (fun _ _ _ h => h) (Or.inl ⟨by rfl, ?_⟩) hS ?_
                rotate_left
                · intro wz
                  go_simp
                  try with_reducible rfl
                simp only [List.getElem_toArray, List.getElem_cons_succ, List.getElem_cons_zero, Act.put, List.setIfInBounds_toArray, List.set_cons_zero, List.set_cons_succ]
                refine HT.take (i := 4) (oi := _) (v := ?_) rfl (by kernel_rfl) (by kernel_rfl) (by decide) (fun _ _ _ h => h) (Or.inl ⟨by rfl, ?_⟩) hS ?_
                rotate_left
                · intro wz
                  go_simp
                  try with_reducible rfl
                simp only [List.getElem_toArray, List.getElem_cons_succ, List.getElem_cons_zero, Act.put, List.setIfInBounds_toArray, List.set_cons_zero, List.set_cons_succ]
                refine HT.load (i := 5) (oi := _) (v := ?_) rfl (by kernel_rfl) (by kernel_rfl) (by decide) (fun _ _ _ h => h) (by kernel_rfl) (Or.inl ⟨by rfl, ?_⟩) hS ?_
                rotate_left
                · intro wz hwz
                  try dsimp only at hwz
                  go_simp
                  try with_reducible rfl
                simp only [List.getElem_toArray, List.getElem_cons_succ, List.getElem_cons_zero, Act.put, List.setIfInBounds_toArray, List.set_cons_zero, List.set_cons_succ]
                refine HT.take (i := 6) (oi := _) (v := ?_) rfl (by kernel_rfl) (by kernel_rfl) (by decide) (fun _ _ _ h => h) (Or.inl ⟨by rfl, ?_⟩) hS ?_
                rotate_left
                · intro wz
                  go_simp
                  try with_reducible rfl
                simp only [List.getElem_toArray, List.getElem_cons_succ, List.getElem_cons_zero, Act.put, List.setIfInBounds_toArray, List.set_cons_zero, List.set_cons_succ]
                refine HT.load (i := 7) (oi := _) (v := ?_) rfl (by kernel_rfl) (by kernel_rfl) (by decide) (fun _ _ _ h => h) (by kernel_rfl) (Or.inl ⟨by rfl, ?_⟩) hS ?_
                rotate_left
                · intro wz hwz
                  try dsimp only at hwz
                  go_simp
                  try with_reducible rfl
                simp only [List.getElem_toArray, List.getElem_cons_succ, List.getElem_cons_zero, Act.put, List.setIfInBounds_toArray, List.set_cons_zero, List.set_cons_succ]
                refine HT.take (i := 8) (oi := _) (v := ?_) rfl (by kernel_rfl) (by kernel_rfl) (by decide) (fun _ _ _ h => h) (Or.inl ⟨by rfl, ?_⟩) hS ?_
                rotate_left
                · intro wz
                  go_simp
                  try with_reducible rfl
                simp only [List.getElem_toArray, List.getElem_cons_succ, List.getElem_cons_zero, Act.put, List.setIfInBounds_toArray, List.set_cons_zero, List.set_cons_succ]
                refine HT.take (i := 9) (oi := _) (v := ?_) rfl (by kernel_rfl) (by kernel_rfl) (by decide) (fun _ _ _ h => h) (Or.inl ⟨by rfl, ?_⟩) hS ?_
                rotate_left
                · intro wz
                  go_simp
                  try with_reducible rfl
                simp only [List.getElem_toArray, List.getElem_cons_succ, List.getElem_cons_zero, Act.put, List.setIfInBounds_toArray, List.set_cons_zero, List.set_cons_succ]
                refine HT.take (i := 10) (oi := _) (v := ?_) rfl (by kernel_rfl) (by kernel_rfl) (by decide) (fun _ _ _ h => h) (Or.inl ⟨by rfl, ?_⟩) hS ?_
                rotate_left
                · intro wz
                  go_simp
                  try with_reducible rfl
                simp only [List.getElem_toArray, List.getElem_cons_succ, List.getElem_cons_zero, Act.put, List.setIfInBounds_toArray, List.set_cons_zero, List.set_cons_succ]
                refine HT.load (i := 11) (oi := _) (v := ?_) rfl (by kernel_rfl) (by kernel_rfl) (by decide) (fun _ _ _ h => h) (by kernel_rfl) (Or.inl ⟨by rfl, ?_⟩) hS ?_
                rotate_left
                · intro wz hwz
                  try dsimp only at hwz
                  go_simp
                  try with_reducible rfl
                simp only [List.getElem_toArray, List.getElem_cons_succ, List.getElem_cons_zero, Act.put, List.setIfInBounds_toArray, List.set_cons_zero, List.set_cons_succ]
                refine HT.take (i := 12) (oi := _) (v := ?_) rfl (by kernel_rfl) (by kernel_rfl) (by decide) (fun _ _ _ h => h) (Or.inl ⟨by rfl, ?_⟩) hS ?_
                rotate_left
                · intro wz
                  go_simp
                  try with_reducible rfl
                simp only [List.getElem_toArray, List.getElem_cons_succ, List.getElem_cons_zero, Act.put, List.setIfInBounds_toArray, List.set_cons_zero, List.set_cons_succ]
                refine HT.take (i := 13) (oi := _) (v := ?_) rfl (by kernel_rfl) (by kernel_rfl) (by decide) (fun _ _ _ h => h) (Or.inl ⟨by rfl, ?_⟩) hS ?_
                rotate_left
                · intro wz
                  go_simp
                  try with_reducible rfl
                simp only [List.getElem_toArray, List.getElem_cons_succ, List.getElem_cons_zero, Act.put, List.setIfInBounds_toArray, List.set_cons_zero, List.set_cons_succ]
                refine HT.take (i := 14) (oi := _) (v := ?_) rfl (by kernel_rfl) (by kernel_rfl) (by decide) (fun _ _ _ h => h) (Or.inl ⟨by rfl, ?_⟩) hS ?_
                rotate_left
                · intro wz
                  go_simp
                  try with_reducible rfl
                simp only [List.getElem_toArray, List.getElem_cons_succ, List.getElem_cons_zero, Act.put, List.setIfInBounds_toArray, List.set_cons_zero, List.set_cons_succ]
                refine HT.one (i := 15) (o := _) rfl (by kernel_rfl) (by decide) (by rfl) ?_
                intro K hK
                go_simp
                refine hK.out _ _ ?_ ?_
                · skip
                  simp only [World.cell?_drew]
                  rw [World.cell?_setCell_other _ _ _ _ (by first | (simp; done) | (simp; omega)), World.cell?_setCell_other _ _ _ _ (by first | (simp; done) | (simp; omega))]
                  exact hS0
                clear hK K
                try simp only [List.getElem_toArray, List.getElem_cons_succ, List.getElem_cons_zero, Act.put, List.setIfInBounds_toArray, List.set_cons_zero, List.set_cons_succ]
                have hS := hS0
                refine HT.done (by kernel_rfl) ?_
                clear hS
                simp only [List.drop_succ_cons, List.drop_zero]
                go_wp2_with fail
                go_roundw
                case rel =>
                  refine ⟨k + 1, by omega, by go_num, ⟨HX1.out.ints, HX1.out.bools⟩, ?_⟩
                  exact ((HXB2.out.setCell (by dsimp only; omega) _).setCell (by dsimp only; omega) _).drew
                case measure => simp [intOf]; omega
              · rw [show decide (1 ≤ m) = false by simp; omega, Bool.false_and] at hX1
                have HX1 := Lib.hid hX1
                clear hX1
                refine wp_region_text 16 (fun x => x.cell? ⟨gy, 0, none⟩ = some (.int .i64 a) ∧ x.cell? ⟨gy, 1, none⟩ = some (.int .i64 m)) (by kernel_rfl) (by kernel_rfl) ?_
                refine HT.take (i := 0) (oi := _) (v := ?_) rfl (by kernel_rfl) (by kernel_rfl) (by decide) (fun _ _ _ h => h) (Or.inl ⟨by rfl, ?_⟩) hS ?_
                rotate_left
                · intro wz
                  go_simp
                  try with_reducible rfl
                simp only [List.getElem_toArray, List.getElem_cons_succ, List.getElem_cons_zero, Act.put, List.setIfInBounds_toArray, List.set_cons_zero, List.set_cons_succ]
                refine HT.take (i := 1) (oi := _) (v := ?_) rfl (by kernel_rfl) (by kernel_rfl) (by decide) (fun _ _ _ h => h) (Or.inl ⟨by rfl, ?_⟩) hS ?_
                rotate_left
                · intro wz
                  go_simp
                  try with_reducible rfl
                simp only [List.getElem_toArray, List.getElem_cons_succ, List.getElem_cons_zero, Act.put, List.setIfInBounds_toArray, List.set_cons_zero, List.set_cons_succ]
                refine HT.take (i := 2) (oi := _) (v := ?_) rfl (by kernel_rfl) (by kernel_rfl) (by decide) (fun _ _ _ h => h) (Or.inl ⟨by rfl, ?_⟩) hS ?_
                rotate_left
                · intro wz
                  go_simp
                  try with_reducible rfl
                simp only [List.getElem_toArray, List.getElem_cons_succ, List.getElem_cons_zero, Act.put, List.setIfInBounds_toArray, List.set_cons_zero, List.set_cons_succ]
                refine HT.take (i := 3) (oi := _) (v := ?_) rfl (by kernel_rfl) (by kernel_rfl) (by decide) (fun _ _ _ h => h) (Or.inl ⟨by rfl, ?_⟩) hS ?_
                rotate_left
                · intro wz
                  go_simp
                  try with_reducible rfl
                simp only [List.getElem_toArray, List.getElem_cons_succ, List.getElem_cons_zero, Act.put, List.setIfInBounds_toArray, List.set_cons_zero, List.set_cons_succ]
                refine HT.take (i := 4) (oi := _) (v := ?_) rfl (by kernel_rfl) (by kernel_rfl) (by decide) (fun _ _ _ h => h) (Or.inl ⟨by rfl, ?_⟩) hS ?_
                rotate_left
                · intro wz
                  go_simp
                  try with_reducible rfl
                simp only [List.getElem_toArray, List.getElem_cons_succ, List.getElem_cons_zero, Act.put, List.setIfInBounds_toArray, List.set_cons_zero, List.set_cons_succ]
                refine HT.load (i := 5) (oi := _) (v := ?_) rfl (by kernel_rfl) (by kernel_rfl) (by decide) (fun _ _ _ h => h) (by kernel_rfl) (Or.inl ⟨by rfl, ?_⟩) hS ?_
                rotate_left
                · intro wz hwz
                  try dsimp only at hwz
                  go_simp
                  try with_reducible rfl
                simp only [List.getElem_toArray, List.getElem_cons_succ, List.getElem_cons_zero, Act.put, List.setIfInBounds_toArray, List.set_cons_zero, List.set_cons_succ]
                refine HT.take (i := 6) (oi := _) (v := ?_) rfl (by kernel_rfl) (by kernel_rfl) (by decide) (fun _ _ _ h => h) (Or.inl ⟨by rfl, ?_⟩) hS ?_
                rotate_left
                · intro wz
                  go_simp
                  try with_reducible rfl
                simp only [List.getElem_toArray, List.getElem_cons_succ, List.getElem_cons_zero, Act.put, List.setIfInBounds_toArray, List.set_cons_zero, List.set_cons_succ]
                refine HT.load (i := 7) (oi := _) (v := ?_) rfl (by kernel_rfl) (by kernel_rfl) (by decide) (fun _ _ _ h => h) (by kernel_rfl) (Or.inl ⟨by rfl, ?_⟩) hS ?_
                rotate_left
                · intro wz hwz
                  try dsimp only at hwz
                  go_simp
                  try with_reducible rfl
                simp only [List.getElem_toArray, List.getElem_cons_succ, List.getElem_cons_zero, Act.put, List.setIfInBounds_toArray, List.set_cons_zero, List.set_cons_succ]
                refine HT.take (i := 8) (oi := _) (v := ?_) rfl (by kernel_rfl) (by kernel_rfl) (by decide) (fun _ _ _ h => h) (Or.inl ⟨by rfl, ?_⟩) hS ?_
                rotate_left
                · intro wz
                  go_simp
                  try with_reducible rfl
                simp only [List.getElem_toArray, List.getElem_cons_succ, List.getElem_cons_zero, Act.put, List.setIfInBounds_toArray, List.set_cons_zero, List.set_cons_succ]
                refine HT.take (i := 9) (oi := _) (v := ?_) rfl (by kernel_rfl) (by kernel_rfl) (by decide) (fun _ _ _ h => h) (Or.inl ⟨by rfl, ?_⟩) hS ?_
                rotate_left
                · intro wz
                  go_simp
                  try with_reducible rfl
                simp only [List.getElem_toArray, List.getElem_cons_succ, List.getElem_cons_zero, Act.put, List.setIfInBounds_toArray, List.set_cons_zero, List.set_cons_succ]
                refine HT.take (i := 10) (oi := _) (v := undef) rfl (by kernel_rfl) (by kernel_rfl) (by decide) (fun _ _ _ h => h) (Or.inr ⟨by rfl, rfl⟩) hS ?_
                simp only [List.getElem_toArray, List.getElem_cons_succ, List.getElem_cons_zero, Act.put, List.setIfInBounds_toArray, List.set_cons_zero, List.set_cons_succ]
                refine HT.take (i := 11) (oi := _) (v := undef) rfl (by kernel_rfl) (by kernel_rfl) (by decide) (fun _ _ _ h => h) (Or.inr ⟨by rfl, rfl⟩) hS ?_
                simp only [List.getElem_toArray, List.getElem_cons_succ, List.getElem_cons_zero, Act.put, List.setIfInBounds_toArray, List.set_cons_zero, List.set_cons_succ]
                refine HT.take (i := 12) (oi := _) (v := undef) rfl (by kernel_rfl) (by kernel_rfl) (by decide) (fun _ _ _ h => h) (Or.inr ⟨by rfl, rfl⟩) hS ?_
                simp only [List.getElem_toArray, List.getElem_cons_succ, List.getElem_cons_zero, Act.put, List.setIfInBounds_toArray, List.set_cons_zero, List.set_cons_succ]
                refine HT.take (i := 13) (oi := _) (v := ?_) rfl (by kernel_rfl) (by kernel_rfl) (by decide) (fun _ _ _ h => h) (Or.inl ⟨by rfl, ?_⟩) hS ?_
                rotate_left
                · intro wz
                  go_simp
                  try with_reducible rfl
                simp only [List.getElem_toArray, List.getElem_cons_succ, List.getElem_cons_zero, Act.put, List.setIfInBounds_toArray, List.set_cons_zero, List.set_cons_succ]
                refine HT.take (i := 14) (oi := _) (v := ?_) rfl (by kernel_rfl) (by kernel_rfl) (by decide) (fun _ _ _ h => h) (Or.inl ⟨by rfl, ?_⟩) hS ?_
                rotate_left
                · intro wz
                  go_simp
                  try with_reducible rfl
                simp only [List.getElem_toArray, List.getElem_cons_succ, List.getElem_cons_zero, Act.put, List.setIfInBounds_toArray, List.set_cons_zero, List.set_cons_succ]
                refine HT.one (i := 15) (o := _) rfl (by kernel_rfl) (by decide) (by rfl) ?_
                intro K hK
                go_simp
                refine hK.out _ _ ?_ ?_
                · skip
                  simp only [World.cell?_drew]
                  rw [World.cell?_setCell_other _ _ _ _ (by first | (simp; done) | (simp; omega)), World.cell?_setCell_other _ _ _ _ (by first | (simp; done) | (simp; omega))]
                  exact hS0
                clear hK K
                try simp only [List.getElem_toArray, List.getElem_cons_succ, List.getElem_cons_zero, Act.put, List.setIfInBounds_toArray, List.set_cons_zero, List.set_cons_succ]
                have hS := hS0
                refine HT.done (by kernel_rfl) ?_
                clear hS
                simp only [List.drop_succ_cons, List.drop_zero]
                go_wp2_with fail
                go_roundw
                case rel =>
                  refine ⟨k + 1, by omega, by go_num, ⟨HX1.out.ints, HX1.out.bools⟩, ?_⟩
                  exact ((HXB2.out.setCell (by dsimp only; omega) _).setCell (by dsimp only; omega) _).drew
                case measure => simp [intOf]; omega
            · obtain rfl : k = n' := by omega
              obtain ⟨hd1, hd2⟩ := hF.out.done
              have HD1 := Lib.hid hd1
              have HD2 := Lib.hid hd2
              clear hd1 hd2 hF
              have HQ : Hid (chkRow (tAt ms) (tOk 32 ms) k = chkL 32 ms) := by show _ = _; unfold chkL; rw [hl'.out]
              go_wp2_with (go_at_call 46; refine (CHECKROWS_any _ _ _ _ _ (tAt ms) (tOk 32 ms) _ HD1 HD2).mono ?_; rintro e w1 ⟨rfl, rfl⟩; rw [HQ.out])
              go_ret
              exact ⟨by unfold chkT; rw [HQ2.out, if_neg (by simp)]; rfl, HBc.out.trans (hb.out.mono (by rw [HGX.out]; omega))⟩
      · have hqb : (q != 0) = true := by simpa using hq0
        go_wp2_with (go_at_call 46; refine (CHECKROWS_any _ _ _ _ _ (tAt l) (tOk 60000000 l) _ HD1 HD2).mono ?_; rintro e w1 ⟨rfl, rfl⟩; rw [HQ.out])
        go_ret
        refine ⟨by unfold chkT; rw [HQ2.out, if_pos hq0]; rfl, (show Below w.heap.size w W by rw [← HGX.out]; exact HBW.out).trans (hb.out.mono (by rw [HGX.out]; omega))⟩
end Go.Proofs.YtdoffngamppkkaaDoor
