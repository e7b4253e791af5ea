/- The stable sort of clips: a permutation. -/
import Derived.Test.YtkmcohnhanphdaaGreatDoorPla
import Derived.Test.YtkmcohnhanphdaaGreatDoorVf
import Derived.Test.YtkmcohnhanphdaaGreatDoorVa
import Derived.Deep.LoopGhost
import Derived.Deep.QuietTactic
import Derived.BigQuiet
set_option linter.unusedSimpArgs false
set_option linter.unusedVariables false
namespace Go.Proofs.YtkmcohnhanphdaaGreatDoor
open Go.RowKit Go.Dw
abbrev CV := Cp × Option Addr × Nat × Nat
def cvL (p : CV) : List Value := [.string p.1.media, .int .i64 p.1.chan, .int .i64 p.1.from_, .int .i64 p.1.track, .int .i64 p.1.at_, .int .i64 p.1.len, .slice p.2.1 p.2.2.1 p.2.2.2]
def cvOf (cs : List CV) (k : Nat) : CV := cs.getD k (cp0, none, 0, 0)
def cvLs (cs : List CV) : List (List Value) := cs.map cvL
theorem cvLs_len (cs : List CV) : (cvLs cs).length = cs.length := List.length_map ..
theorem cv_rec {cs : List CV} {k : Nat} (hk : k < cs.length) : recOf (cvLs cs) k = cvL (cvOf cs k) := by
  simp [recOf, cvLs, cvOf, List.getD, hk]
theorem cv_mem {cs : List CV} {k : Nat} (hk : k < cs.length) : cvOf cs k ∈ cs := by simp [cvOf, List.getD, List.getElem?_eq_getElem hk]
theorem OwnK.set7 {E : TypeId} {w : World} {base g n cap i : Nat} {ls : List (List Value)} (h : OwnK 7 E w base (.slice (some ⟨g, 0, none⟩) n cap) ls) (hi : i < ls.length) (v0 v1 v2 v3 v4 v5 v6 : Value) :
    OwnK 7 E (((((((w.setCell ⟨g, i * 7, none⟩ v0).setCell ⟨g, i * 7 + 1, none⟩ v1).setCell ⟨g, i * 7 + 2, none⟩ v2).setCell ⟨g, i * 7 + 3, none⟩ v3).setCell ⟨g, i * 7 + 4, none⟩ v4).setCell ⟨g, i * 7 + 5, none⟩ v5).setCell ⟨g, i * 7 + 6, none⟩ v6) base (.slice (some ⟨g, 0, none⟩) n cap) (ls.set i [v0, v1, v2, v3, v4, v5, v6]) := by
  have hl : (recOf ls i).length = 7 := h.1 _ (rec_mem hi)
  have h1 := h.set (i := i) (j := 0) hi (by omega) v0
  have h2 := h1.set (i := i) (j := 1) (by rw [List.length_set]; exact hi) (by omega) v1
  rw [rec_set hi, List.set_set] at h2
  have h3 := h2.set (i := i) (j := 2) (by rw [List.length_set]; exact hi) (by omega) v2
  rw [rec_set hi, List.set_set] at h3
  have h4 := h3.set (i := i) (j := 3) (by rw [List.length_set]; exact hi) (by omega) v3
  rw [rec_set hi, List.set_set] at h4
  have h5 := h4.set (i := i) (j := 4) (by rw [List.length_set]; exact hi) (by omega) v4
  rw [rec_set hi, List.set_set] at h5
  have h6 := h5.set (i := i) (j := 5) (by rw [List.length_set]; exact hi) (by omega) v5
  rw [rec_set hi, List.set_set] at h6
  have h7 := h6.set (i := i) (j := 6) (by rw [List.length_set]; exact hi) (by omega) v6
  rw [rec_set hi, List.set_set] at h7
  obtain ⟨r, hr⟩ : ∃ r, recOf ls i = r := ⟨_, rfl⟩
  rw [hr] at hl h7
  match r, hl with
  | [a, b, c, d, e, f, g], _ => exact h7
def SortC (base g n cap : Nat) (cs0 : List CV) (w0 w : World) : Prop := ∃ cs : List CV, cs.Perm cs0 ∧ OwnK 7 58 w base (.slice (some ⟨g, 0, none⟩) n cap) (cvLs cs) ∧ Alt g (g + 1) w0 w
theorem Alt.refl (lo hi : Nat) (w : World) : Alt lo hi w w := ⟨rfl, rfl, rfl, Nat.le_refl _, fun _ _ _ => rfl⟩
theorem SortC.refl {base g n cap : Nat} {cs : List CV} {w : World} (h : OwnK 7 58 w base (.slice (some ⟨g, 0, none⟩) n cap) (cvLs cs)) : SortC base g n cap cs w w := ⟨cs, List.Perm.refl _, h, Alt.refl _ _ _⟩
theorem SortC.below {base g n cap : Nat} {cs0 : List CV} {w0 w w' : World} (h : SortC base g n cap cs0 w0 w) (hb : Below w.heap.size w w') : SortC base g n cap cs0 w0 w' := by
  obtain ⟨cs, h1, h2, h3⟩ := h
  exact ⟨cs, h1, h2.below hb, h3.trans (Alt.of_below hb)⟩
theorem SortC.drew {base g n cap : Nat} {cs0 : List CV} {w0 w : World} (h : SortC base g n cap cs0 w0 w) : SortC base g n cap cs0 w0 w.drew := h.below (Below.refl _ _).drew
theorem SortC.trans {base g n cap : Nat} {cs0 cs : List CV} {w0 w w' : World} (hp : cs.Perm cs0) (ha : Alt g (g + 1) w0 w) (h : SortC base g n cap cs w w') : SortC base g n cap cs0 w0 w' := by
  obtain ⟨cs', h1, h2, h3⟩ := h
  exact ⟨cs', h1.trans hp, h2, ha.trans h3⟩
theorem alt_set_in {lo hi : Nat} {a w : World} (h : Alt lo hi a w) {p : Addr} (h1 : lo ≤ p.block) (h2 : p.block < hi) (u : Value) : Alt lo hi a (w.setCell p u) :=
  ⟨h.os, h.tape, h.output, by simpa [World.setCell] using h.size, fun i hi hc => (Below.heap_setCell w p u i (by omega)).trans (h.block i hi hc)⟩
theorem alt_setg {g : Nat} {a w : World} (h : Alt g (g + 1) a w) (o : Nat) (u : Value) : Alt g (g + 1) a (w.setCell ⟨g, o, none⟩ u) := alt_set_in h (p := ⟨g, o, none⟩) (Nat.le_refl _) (Nat.lt_succ_self _) u
theorem cvLs_set (cs : List CV) (i : Nat) (p : CV) : (cvLs cs).set i (cvL p) = cvLs (cs.set i p) := by unfold cvLs; rw [List.map_set]
theorem swp_perm {cs : List CV} {I J : Nat} (hI : I < cs.length) (hJ : J < cs.length) : ((cs.set I (cvOf cs J)).set J (cvOf cs I)).Perm cs := by
  have e1 : cvOf cs I = cs[I] := by simp [cvOf, List.getD, hI]
  have e2 : cvOf cs J = cs[J] := by simp [cvOf, List.getD, hJ]
  rw [e1, e2]
  exact List.set_set_perm hI hJ
theorem exch7 {w0 w : World} {base g n cap I J : Nat} {cs cs0 : List CV} {c d : Cp} {A1 A2 : Option Addr} {n1 c1 n2 c2 : Nat} (hI : I < cs.length) (hJ : J < cs.length) (hx : cvOf cs I = (c, A1, n1, c1)) (hy : cvOf cs J = (d, A2, n2, c2)) (ho : OwnK 7 58 w base (.slice (some ⟨g, 0, none⟩) n cap) (cvLs cs)) (ha : Alt g (g + 1) w0 w) (hp : cs.Perm cs0) :
    ∃ V, V = ((((((((((((((w.setCell ⟨g, I * 7, none⟩ (.string d.media)).setCell ⟨g, I * 7 + 1, none⟩ (.int .i64 d.chan)).setCell ⟨g, I * 7 + 2, none⟩ (.int .i64 d.from_)).setCell ⟨g, I * 7 + 3, none⟩ (.int .i64 d.track)).setCell ⟨g, I * 7 + 4, none⟩ (.int .i64 d.at_)).setCell ⟨g, I * 7 + 5, none⟩ (.int .i64 d.len)).setCell ⟨g, I * 7 + 6, none⟩ (.slice A2 n2 c2)).setCell ⟨g, J * 7, none⟩ (.string c.media)).setCell ⟨g, J * 7 + 1, none⟩ (.int .i64 c.chan)).setCell ⟨g, J * 7 + 2, none⟩ (.int .i64 c.from_)).setCell ⟨g, J * 7 + 3, none⟩ (.int .i64 c.track)).setCell ⟨g, J * 7 + 4, none⟩ (.int .i64 c.at_)).setCell ⟨g, J * 7 + 5, none⟩ (.int .i64 c.len)).setCell ⟨g, J * 7 + 6, none⟩ (.slice A1 n1 c1)) ∧ Hid (SortC base g n cap cs0 w0 V) := by
  refine ⟨_, rfl, (cs.set I (cvOf cs J)).set J (cvOf cs I), (swp_perm hI hJ).trans hp, ?_, ?_⟩
  · have h1 := ho.set7 (i := I) (by rw [cvLs_len]; exact hI) (.string d.media) (.int .i64 d.chan) (.int .i64 d.from_) (.int .i64 d.track) (.int .i64 d.at_) (.int .i64 d.len) (.slice A2 n2 c2)
    have h2 := h1.set7 (i := J) (by rw [List.length_set, cvLs_len]; exact hJ) (.string c.media) (.int .i64 c.chan) (.int .i64 c.from_) (.int .i64 c.track) (.int .i64 c.at_) (.int .i64 c.len) (.slice A1 n1 c1)
    rw [hx, hy, ← cvLs_set, ← cvLs_set]
    exact h2
  · exact alt_setg (alt_setg (alt_setg (alt_setg (alt_setg (alt_setg (alt_setg (alt_setg (alt_setg (alt_setg (alt_setg (alt_setg (alt_setg (alt_setg ha _ _) _ _) _ _) _ _) _ _) _ _) _ _) _ _) _ _) _ _) _ _) _ _) _ _) _ _
theorem row_cells {w : World} {base g n cap I : Nat} {cs : List CV} {c : Cp} {A1 : Option Addr} {n1 c1 : Nat} (hI : I < cs.length) (hx : cvOf cs I = (c, A1, n1, c1)) (ho : OwnK 7 58 w base (.slice (some ⟨g, 0, none⟩) n cap) (cvLs cs)) :
    (w.cell? ⟨g, I * 7, none⟩ = some (.string c.media) ∧ w.cell? ⟨g, I * 7 + 1, none⟩ = some (.int .i64 c.chan) ∧ w.cell? ⟨g, I * 7 + 2, none⟩ = some (.int .i64 c.from_) ∧ w.cell? ⟨g, I * 7 + 3, none⟩ = some (.int .i64 c.track) ∧ w.cell? ⟨g, I * 7 + 4, none⟩ = some (.int .i64 c.at_) ∧ w.cell? ⟨g, I * 7 + 5, none⟩ = some (.int .i64 c.len) ∧ w.cell? ⟨g, I * 7 + 6, none⟩ = some (.slice A1 n1 c1)) ∧
    (w.frozen? ⟨g, I * 7, none⟩ = false ∧ w.frozen? ⟨g, I * 7 + 1, none⟩ = false ∧ w.frozen? ⟨g, I * 7 + 2, none⟩ = false ∧ w.frozen? ⟨g, I * 7 + 3, none⟩ = false ∧ w.frozen? ⟨g, I * 7 + 4, none⟩ = false ∧ w.frozen? ⟨g, I * 7 + 5, none⟩ = false ∧ w.frozen? ⟨g, I * 7 + 6, none⟩ = false) := by
  have hr := cv_rec hI
  rw [hx] at hr
  have hc := fun (j : Nat) (u : Value) (hu : (cvL (c, A1, n1, c1))[j]? = some u) => ho.cells (i := I) (by rw [cvLs_len]; exact hI) (by omega) j u (by rw [hr]; exact hu)
  exact ⟨⟨(hc 0 _ rfl).1, (hc 1 _ rfl).1, (hc 2 _ rfl).1, (hc 3 _ rfl).1, (hc 4 _ rfl).1, (hc 5 _ rfl).1, (hc 6 _ rfl).1⟩, (hc 0 _ rfl).2, (hc 1 _ rfl).2, (hc 2 _ rfl).2, (hc 3 _ rfl).2, (hc 4 _ rfl).2, (hc 5 _ rfl).2, (hc 6 _ rfl).2⟩
theorem OwnK.len_eq {k : Nat} {E : TypeId} {w : World} {base g n cap : Nat} {ls : List (List Value)} (h : OwnK k E w base (.slice (some ⟨g, 0, none⟩) n cap) ls) : n = ls.length := by
  obtain ⟨A', c', e, _, _⟩ := own_form h.2
  injection e
end Go.Proofs.YtkmcohnhanphdaaGreatDoor
/- The stable sort of clips: swapRange, rotate, insertion (printed by tools/mksort.py). -/
namespace Go.Proofs.YtkmcohnhanphdaaGreatDoor
open Go.RowKit Go.Dw
attribute [local go_sem ↓] Go.wp_at_zero Go.wp_at_succ
set_option maxRecDepth 100000 in
set_option maxHeartbeats 8000000 in
theorem SWAPC_any (base g n cap a b l : Nat) (fv : Value) (cs : List CV) (hal : a + l ≤ b) (hbl : b + l ≤ n) (hn : n ≤ 1000000) (w : World) (hh : Hid (OwnK 7 58 w base (.slice (some ⟨g, 0, none⟩) n cap) (cvLs cs))) :
    Calls Tryz.prog 175 #[.slice (some ⟨g, 0, none⟩) n cap, .int .i64 (a : Int), .int .i64 (b : Int), .int .i64 (l : Int), fv] w fun e w' => e = .returned (.tuple #[]) ∧ SortC base g n cap cs w w' := by
  have HST : Hid (SortC base g n cap cs w w) := SortC.refl hh.out
  have hnl : n = cs.length := by rw [← cvLs_len]; exact hh.out.len_eq
  have HNL := Lib.hid hnl
  obtain ⟨w0, rfl⟩ : ∃ x : World, x = w := ⟨_, rfl⟩
  obtain ⟨cs0, hcs0⟩ : ∃ x : List CV, x = cs := ⟨_, rfl⟩
  rw [← hcs0] at HST ⊢
  have hlen0 : cs0.length = n := by rw [hcs0]; exact hnl.symm
  clear hcs0 hnl HNL hh cs
  go_enter Tryz.func175, Tryz.ntmps175
  go_wp2_with fail
  go_loopw [10] (fun i wr => ∃ k : Nat, k ≤ l ∧ i = .int .i64 k ∧ Hid (SortC base g n cap cs0 w0 wr)) (fun i _ => l - (intOf i).toNat)
  case atStart => exact ⟨0, Nat.zero_le _, rfl, HST⟩
  case round =>
    obtain ⟨k, hk, rfl, HS⟩ := hrel
    by_cases hlt : k < l
    · have hk0 : (0 : Int) ≤ (k : Int) := by omega
      have hkl : (k : Int) < (l : Int) := by omega
      obtain ⟨cs, hp0, ho0, ha0⟩ := HS.out
      have hlen : cs.length = n := by rw [hp0.length_eq]; exact hlen0
      have hp := Lib.hid hp0
      have ho := Lib.hid ho0
      have ha := Lib.hid ha0
      have HAK : Hid (IntKind.i64.wrap ((a : Int) + (k : Int)) = (a : Int) + (k : Int)) := by show _ = _; exact IntWalk.i64_in _ (by omega)
      have HBK : Hid (IntKind.i64.wrap ((b : Int) + (k : Int)) = (b : Int) + (k : Int)) := by show _ = _; exact IntWalk.i64_in _ (by omega)
      have h1 : (0 : Int) ≤ (a : Int) + (k : Int) := by omega
      have h2 : (a : Int) + (k : Int) < (n : Int) := by omega
      have h3 : (0 : Int) ≤ (b : Int) + (k : Int) := by omega
      have h4 : (b : Int) + (k : Int) < (n : Int) := by omega
      have h5 : ((a : Int) + (k : Int)).toNat = a + k := by omega
      have h6 : ((b : Int) + (k : Int)).toNat = b + k := by omega
      clear hp0 ho0 ha0 HS
      go_upto_region 3 with (fail)
      obtain ⟨⟨c, A1, n1, c1⟩, hx⟩ : ∃ p, cvOf cs (a + k) = p := ⟨_, rfl⟩
      obtain ⟨⟨d, A2, n2, c2⟩, hy⟩ : ∃ p, cvOf cs (b + k) = p := ⟨_, rfl⟩
      refine wp_region_text 20 (fun x9 => (x9.cell? ⟨g, (a + k) * 7, none⟩ = some (.string c.media) ∧ x9.cell? ⟨g, (a + k) * 7 + 1, none⟩ = some (.int .i64 c.chan) ∧ x9.cell? ⟨g, (a + k) * 7 + 2, none⟩ = some (.int .i64 c.from_) ∧ x9.cell? ⟨g, (a + k) * 7 + 3, none⟩ = some (.int .i64 c.track) ∧ x9.cell? ⟨g, (a + k) * 7 + 4, none⟩ = some (.int .i64 c.at_) ∧ x9.cell? ⟨g, (a + k) * 7 + 5, none⟩ = some (.int .i64 c.len) ∧ x9.cell? ⟨g, (a + k) * 7 + 6, none⟩ = some (.slice A1 n1 c1)) ∧ x9.cell? ⟨g, (b + k) * 7, none⟩ = some (.string d.media) ∧ x9.cell? ⟨g, (b + k) * 7 + 1, none⟩ = some (.int .i64 d.chan) ∧ x9.cell? ⟨g, (b + k) * 7 + 2, none⟩ = some (.int .i64 d.from_) ∧ x9.cell? ⟨g, (b + k) * 7 + 3, none⟩ = some (.int .i64 d.track) ∧ x9.cell? ⟨g, (b + k) * 7 + 4, none⟩ = some (.int .i64 d.at_) ∧ x9.cell? ⟨g, (b + k) * 7 + 5, none⟩ = some (.int .i64 d.len) ∧ x9.cell? ⟨g, (b + k) * 7 + 6, none⟩ = some (.slice A2 n2 c2)) (by kernel_rfl) (by kernel_rfl) ?_
      obtain ⟨Y, hY⟩ : ∃ Y, Y = wr.drew := ⟨_, rfl⟩
      have HOY : Hid (OwnK 7 58 Y base (.slice (some ⟨g, 0, none⟩) n cap) (cvLs cs)) := by show OwnK _ _ _ _ _ _; rw [hY]; exact ho.out.below (Below.refl _ _).drew
      have HAY : Hid (Alt g (g + 1) w0 Y) := by show Alt _ _ _ _; rw [hY]; exact ha.out.trans (Alt.of_below (Below.refl _ _).drew)
      rw [← hY]
      clear hY
      have HRF1 := Lib.hid (row_cells (I := a + k) (by omega) hx HOY.out)
      have HRF2 := Lib.hid (row_cells (I := b + k) (by omega) hy HOY.out)
      have HX := Lib.hid hx
      have HY := Lib.hid hy
      clear hx hy
      have hS := And.intro HRF1.out.1 HRF2.out.1
      refine HT.take (i := 0) (oi := _) (v := ?_) rfl (by kernel_rfl) (by kernel_rfl) (by decide) (fun _ _ _ h => h) (Or.inl ⟨by rfl, ?_⟩) hS ?_
      rotate_left
      · intro wz
        go_simp
        try with_reducible rfl
      simp only [zA, zB, zC, Act.put, zD, zE, zF]
      refine HT.take (i := 1) (oi := _) (v := ?_) rfl (by kernel_rfl) (by kernel_rfl) (by decide) (fun _ _ _ h => h) (Or.inl ⟨by rfl, ?_⟩) hS ?_
      rotate_left
      · intro wz
        go_simp
        try with_reducible rfl
      simp only [zA, zB, zC, Act.put, zD, zE, zF]
      refine HT.take (i := 2) (oi := _) (v := ?_) rfl (by kernel_rfl) (by kernel_rfl) (by decide) (fun _ _ _ h => h) (Or.inl ⟨by rfl, ?_⟩) hS ?_
      rotate_left
      · intro wz
        go_simp
        try with_reducible rfl
      simp only [zA, zB, zC, Act.put, zD, zE, zF]
      refine HT.take (i := 3) (oi := _) (v := ?_) rfl (by kernel_rfl) (by kernel_rfl) (by decide) (fun _ _ _ h => h) (Or.inl ⟨by rfl, ?_⟩) hS ?_
      rotate_left
      · intro wz
        go_simp
        try with_reducible rfl
      simp only [zA, zB, zC, Act.put, zD, zE, zF]
      rw [HAK.out]
      refine HT.take (i := 4) (oi := _) (v := ?_) rfl (by kernel_rfl) (by kernel_rfl) (by decide) (fun _ _ _ h => h) (Or.inl ⟨by rfl, ?_⟩) hS ?_
      rotate_left
      · intro wz
        go_simp
        try with_reducible rfl
      simp only [zA, zB, zC, Act.put, zD, zE, zF]
      refine HT.take (i := 5) (oi := _) (v := ?_) rfl (by kernel_rfl) (by kernel_rfl) (by decide) (fun _ _ _ h => h) (Or.inl ⟨by rfl, ?_⟩) hS ?_
      rotate_left
      · intro wz
        go_simp
        try with_reducible rfl
      simp only [zA, zB, zC, Act.put, zD, zE, zF]
      refine HT.take (i := 6) (oi := _) (v := ?_) rfl (by kernel_rfl) (by kernel_rfl) (by decide) (fun _ _ _ h => h) (Or.inl ⟨by rfl, ?_⟩) hS ?_
      rotate_left
      · intro wz
        go_simp
        try with_reducible rfl
      simp only [zA, zB, zC, Act.put, zD, zE, zF]
      refine HT.take (i := 7) (oi := _) (v := ?_) rfl (by kernel_rfl) (by kernel_rfl) (by decide) (fun _ _ _ h => h) (Or.inl ⟨by rfl, ?_⟩) hS ?_
      rotate_left
      · intro wz
        go_simp
        try with_reducible rfl
      simp only [zA, zB, zC, Act.put, zD, zE, zF]
      rw [HBK.out]
      refine HT.take (i := 8) (oi := _) (v := ?_) rfl (by kernel_rfl) (by kernel_rfl) (by decide) (fun _ _ _ h => h) (Or.inl ⟨by rfl, ?_⟩) hS ?_
      rotate_left
      · intro wz
        go_simp
        try with_reducible rfl
      simp only [zA, zB, zC, Act.put, zD, zE, zF]
      refine HT.take (i := 9) (oi := _) (v := ?_) rfl (by kernel_rfl) (by kernel_rfl) (by decide) (fun _ _ _ h => h) (Or.inl ⟨by rfl, ?_⟩) hS ?_
      rotate_left
      · intro wz
        go_simp
        try with_reducible rfl
      simp only [zA, zB, zC, Act.put, zD, zE, zF]
      refine HT.take (i := 10) (oi := _) (v := ?_) rfl (by kernel_rfl) (by kernel_rfl) (by decide) (fun _ _ _ h => h) (Or.inl ⟨by rfl, ?_⟩) hS ?_
      rotate_left
      · intro wz
        go_simp
        try with_reducible rfl
      simp only [zA, zB, zC, Act.put, zD, zE, zF]
      refine HT.take (i := 11) (oi := _) (v := ?_) rfl (by kernel_rfl) (by kernel_rfl) (by decide) (fun _ _ _ h => h) (Or.inl ⟨by rfl, ?_⟩) hS ?_
      rotate_left
      · intro wz
        go_simp
        try with_reducible rfl
      simp only [zA, zB, zC, Act.put, zD, zE, zF]
      rw [HBK.out]
      refine HT.take (i := 12) (oi := _) (v := ?_) rfl (by kernel_rfl) (by kernel_rfl) (by decide) (fun _ _ _ h => h) (Or.inl ⟨by rfl, ?_⟩) hS ?_
      rotate_left
      · intro wz
        go_simp
        try with_reducible rfl
      simp only [zA, zB, zC, Act.put, zD, zE, zF]
      refine HT.load (i := 13) (oi := _) (v := ?_) rfl (by kernel_rfl) (by kernel_rfl) (by decide) (fun _ _ _ h => h) (by kernel_rfl) (Or.inl ⟨by rfl, ?_⟩) hS ?_
      rotate_left
      · intro wz hwz
        try dsimp only at hwz
        go_simp
        try with_reducible rfl
      simp only [zA, zB, zC, Act.put, zD, zE, zF]
      refine HT.take (i := 14) (oi := _) (v := ?_) rfl (by kernel_rfl) (by kernel_rfl) (by decide) (fun _ _ _ h => h) (Or.inl ⟨by rfl, ?_⟩) hS ?_
      rotate_left
      · intro wz
        go_simp
        try with_reducible rfl
      simp only [zA, zB, zC, Act.put, zD, zE, zF]
      refine HT.take (i := 15) (oi := _) (v := ?_) rfl (by kernel_rfl) (by kernel_rfl) (by decide) (fun _ _ _ h => h) (Or.inl ⟨by rfl, ?_⟩) hS ?_
      rotate_left
      · intro wz
        go_simp
        try with_reducible rfl
      simp only [zA, zB, zC, Act.put, zD, zE, zF]
      refine HT.take (i := 16) (oi := _) (v := ?_) rfl (by kernel_rfl) (by kernel_rfl) (by decide) (fun _ _ _ h => h) (Or.inl ⟨by rfl, ?_⟩) hS ?_
      rotate_left
      · intro wz
        go_simp
        try with_reducible rfl
      simp only [zA, zB, zC, Act.put, zD, zE, zF]
      refine HT.take (i := 17) (oi := _) (v := ?_) rfl (by kernel_rfl) (by kernel_rfl) (by decide) (fun _ _ _ h => h) (Or.inl ⟨by rfl, ?_⟩) hS ?_
      rotate_left
      · intro wz
        go_simp
        try with_reducible rfl
      simp only [zA, zB, zC, Act.put, zD, zE, zF]
      rw [HAK.out]
      refine HT.take (i := 18) (oi := _) (v := ?_) rfl (by kernel_rfl) (by kernel_rfl) (by decide) (fun _ _ _ h => h) (Or.inl ⟨by rfl, ?_⟩) hS ?_
      rotate_left
      · intro wz
        go_simp
        try with_reducible rfl
      simp only [zA, zB, zC, Act.put, zD, zE, zF]
      refine HT.load (i := 19) (oi := _) (v := ?_) rfl (by kernel_rfl) (by kernel_rfl) (by decide) (fun _ _ _ h => h) (by kernel_rfl) (Or.inl ⟨by rfl, ?_⟩) hS ?_
      rotate_left
      · intro wz hwz
        try dsimp only at hwz
        go_simp
        try with_reducible rfl
      simp only [zA, zB, zC, Act.put, zD, zE, zF]
      refine HT.done (by kernel_rfl) ?_
      clear hS
      simp only [List.drop_succ_cons, List.drop_zero]
      obtain ⟨⟨a0, a1, a2, a3, a4, a5, a6⟩, f0, f1, f2, f3, f4, f5, f6⟩ := HRF1.out
      obtain ⟨⟨b0, b1, b2, b3, b4, b5, b6⟩, k0, k1, k2, k3, k4, k5, k6⟩ := HRF2.out
      have e0 : ¬ (b + k) * 7 = (a + k) * 7 := by omega
      have e0s : ¬ (a + k) * 7 = (b + k) * 7 := by omega
      have e1 : ¬ (b + k) * 7 + 1 = (a + k) * 7 := by omega
      have e1s : ¬ (a + k) * 7 = (b + k) * 7 + 1 := by omega
      have m1 : ¬ (b + k) * 7 = (a + k) * 7 + 1 := by omega
      have m1s : ¬ (a + k) * 7 + 1 = (b + k) * 7 := by omega
      have e2 : ¬ (b + k) * 7 + 2 = (a + k) * 7 := by omega
      have e2s : ¬ (a + k) * 7 = (b + k) * 7 + 2 := by omega
      have m2 : ¬ (b + k) * 7 = (a + k) * 7 + 2 := by omega
      have m2s : ¬ (a + k) * 7 + 2 = (b + k) * 7 := by omega
      have e3 : ¬ (b + k) * 7 + 3 = (a + k) * 7 := by omega
      have e3s : ¬ (a + k) * 7 = (b + k) * 7 + 3 := by omega
      have m3 : ¬ (b + k) * 7 = (a + k) * 7 + 3 := by omega
      have m3s : ¬ (a + k) * 7 + 3 = (b + k) * 7 := by omega
      have e4 : ¬ (b + k) * 7 + 4 = (a + k) * 7 := by omega
      have e4s : ¬ (a + k) * 7 = (b + k) * 7 + 4 := by omega
      have m4 : ¬ (b + k) * 7 = (a + k) * 7 + 4 := by omega
      have m4s : ¬ (a + k) * 7 + 4 = (b + k) * 7 := by omega
      have e5 : ¬ (b + k) * 7 + 5 = (a + k) * 7 := by omega
      have e5s : ¬ (a + k) * 7 = (b + k) * 7 + 5 := by omega
      have m5 : ¬ (b + k) * 7 = (a + k) * 7 + 5 := by omega
      have m5s : ¬ (a + k) * 7 + 5 = (b + k) * 7 := by omega
      have e6 : ¬ (b + k) * 7 + 6 = (a + k) * 7 := by omega
      have e6s : ¬ (a + k) * 7 = (b + k) * 7 + 6 := by omega
      have m6 : ¬ (b + k) * 7 = (a + k) * 7 + 6 := by omega
      have m6s : ¬ (a + k) * 7 + 6 = (b + k) * 7 := by omega
      go_wp2_with fail
      obtain ⟨V, hV, HSV⟩ := exch7 (I := a + k) (J := b + k) (by omega) (by omega) HX.out HY.out HOY.out HAY.out hp.out
      rw [← hV]
      clear hV a0 a1 a2 a3 a4 a5 a6 b0 b1 b2 b3 b4 b5 b6 f0 f1 f2 f3 f4 f5 f6 k0 k1 k2 k3 k4 k5 k6 HX HY HRF1 HRF2 e0 e0s e1 e1s m1 m1s e2 e2s m2 m2s e3 e3s m3 m3s e4 e4s m4 m4s e5 e5s m5 m5s e6 e6s m6 m6s
      go_roundw
      case rel => exact ⟨k + 1, by omega, by go_num, HSV⟩
      case measure => simp [intOf]; omega
    · obtain rfl : k = l := by omega
      go_wp2_with fail
      refine bodyPost_end (v := .tuple #[]) (by simp [results, Tryz.results175, go_sem]) rfl ?_
      exact ⟨rfl, HS.out⟩
set_option maxRecDepth 100000 in
set_option maxHeartbeats 8000000 in
theorem ROTATEC_any (base g n cap a m b : Nat) (fv : Value) (cs : List CV) (ham : a < m) (hmb : m < b) (hbn : b ≤ n) (hn : n ≤ 1000000) (w : World) (hh : Hid (OwnK 7 58 w base (.slice (some ⟨g, 0, none⟩) n cap) (cvLs cs))) :
    Calls Tryz.prog 160 #[.slice (some ⟨g, 0, none⟩) n cap, .int .i64 (a : Int), .int .i64 (m : Int), .int .i64 (b : Int), fv] w fun e w' => e = .returned (.tuple #[]) ∧ SortC base g n cap cs w w' := by
  have HST : Hid (SortC base g n cap cs w w) := SortC.refl hh.out
  obtain ⟨w0, rfl⟩ : ∃ x : World, x = w := ⟨_, rfl⟩
  obtain ⟨cs0, rfl⟩ : ∃ x : List CV, x = cs := ⟨_, rfl⟩
  clear hh
  go_enter Tryz.func160, Tryz.ntmps160
  go_wp2_with fail
  go_loopg [10, 11] (b - a) (fun gh v10 v11 wr => ∃ i j : Nat, v10 = .int .i64 i ∧ v11 = .int .i64 j ∧ i + j = gh ∧ 1 ≤ i ∧ 1 ≤ j ∧ i ≤ m ∧ m + j ≤ n ∧ Hid (SortC base g n cap cs0 w0 wr))
  case atStart => exact ⟨m - a, b - m, by congr 1; omega, by congr 1; omega, by omega, by omega, by omega, by omega, by omega, HST⟩
  case round =>
    obtain ⟨i, j, rfl, rfl, hij, hi, hj, him, hmj, HS⟩ := hrel
    obtain ⟨cs, hp0, ho0, ha0⟩ := HS.out
    have hp := Lib.hid hp0
    have ho := Lib.hid ho0
    have ha := Lib.hid ha0
    clear hp0 ho0 ha0 HS
    have e1 : Hid ((m : Int) - (i : Int) = ((m - i : Nat) : Int)) := by show _ = _; omega
    rcases Nat.lt_trichotomy i j with hlt | heq | hgt
    · have d1 : ((i : Int) != (j : Int)) = true := by simp; omega
      have d2 : ¬ (j : Int) < (i : Int) := by omega
      have e2 : Hid ((m : Int) + (j : Int) - (i : Int) = ((m + j - i : Nat) : Int)) := by show _ = _; omega
      go_wp2_with fail
      rw [e1.out, e2.out]
      refine (SWAPC_any base g n cap (m - i) (m + j - i) i fv cs (by omega) (by omega) hn wr ho).mono ?_
      rintro e w1 ⟨rfl, hs1⟩
      have HS1 : Hid (SortC base g n cap cs0 w0 w1) := SortC.trans hp.out ha.out hs1
      clear hs1 d1 d2
      go_wp2_with fail
      go_roundg (i + (j - i))
      case measure => omega
      case rel => exact ⟨i, j - i, rfl, by congr 1; omega, rfl, hi, by omega, him, by omega, HS1⟩
    · subst heq
      have d1 : ((i : Int) != (i : Int)) = false := by simp
      go_wp2_with fail
      rw [e1.out]
      refine (SWAPC_any base g n cap (m - i) m i fv cs (by omega) (by omega) hn wr ho).mono ?_
      rintro e w1 ⟨rfl, hs1⟩
      have HS1 : Hid (SortC base g n cap cs0 w0 w1) := SortC.trans hp.out ha.out hs1
      clear hs1 d1
      go_wp2_with fail
      refine bodyPost_end (v := .tuple #[]) (by simp [results, Tryz.results160, go_sem]) rfl ?_
      exact ⟨rfl, HS1.out⟩
    · have d1 : ((i : Int) != (j : Int)) = true := by simp; omega
      have d2 : (j : Int) < (i : Int) := by omega
      go_wp2_with fail
      rw [e1.out]
      refine (SWAPC_any base g n cap (m - i) m j fv cs (by omega) (by omega) hn wr ho).mono ?_
      rintro e w1 ⟨rfl, hs1⟩
      have HS1 : Hid (SortC base g n cap cs0 w0 w1) := SortC.trans hp.out ha.out hs1
      clear hs1 d1 d2
      go_wp2_with fail
      go_roundg (i - j + j)
      case measure => omega
      case rel => exact ⟨i - j, j, by congr 1; omega, rfl, rfl, by omega, hj, by omega, hmj, HS1⟩
set_option maxRecDepth 100000 in
set_option maxHeartbeats 16000000 in
theorem INSERTC_any (base g n cap a b : Nat) (cs : List CV) (hab : a ≤ b) (hbn : b ≤ n) (hn : n ≤ 1000000) (w : World) (hh : Hid (OwnK 7 58 w base (.slice (some ⟨g, 0, none⟩) n cap) (cvLs cs))) :
    Calls Tryz.prog 145 #[.slice (some ⟨g, 0, none⟩) n cap, .int .i64 (a : Int), .int .i64 (b : Int), .func (.func 49) #[] #[]] w fun e w' => e = .returned (.tuple #[]) ∧ SortC base g n cap cs w w' := by
  have HST : Hid (SortC base g n cap cs w w) := SortC.refl hh.out
  have hnl : n = cs.length := by rw [← cvLs_len]; exact hh.out.len_eq
  obtain ⟨w0, rfl⟩ : ∃ x : World, x = w := ⟨_, rfl⟩
  obtain ⟨cs0, hcs0⟩ : ∃ x : List CV, x = cs := ⟨_, rfl⟩
  rw [← hcs0] at HST ⊢
  have hlen0 : cs0.length = n := by rw [hcs0]; exact hnl.symm
  clear hcs0 hnl hh cs
  go_enter Tryz.func145, Tryz.ntmps145
  go_wp2_with fail
  go_loopg [8] (b - a) (fun gh v8 wr => ∃ i : Nat, v8 = .int .i64 i ∧ a + 1 ≤ i ∧ i ≤ b + 1 ∧ i + gh = b + 1 ∧ Hid (SortC base g n cap cs0 w0 wr))
  case atStart => exact ⟨a + 1, by go_num, by omega, by omega, by omega, HST⟩
  case round =>
    obtain ⟨i, rfl, hi1, hi2, hig, HS⟩ := hrel
    obtain ⟨g1, rfl⟩ : ∃ g1 : Nat, g1 = gk := ⟨_, rfl⟩
    by_cases hlt : i < b
    · have hib : (i : Int) < (b : Int) := by omega
      go_wp2_with fail
      go_loopg [9] i (fun gh v9 wr => ∃ j : Nat, v9 = .int .i64 j ∧ a ≤ j ∧ j ≤ i ∧ j = gh ∧ Hid (SortC base g n cap cs0 w0 wr))
      case atStart => exact ⟨i, rfl, by omega, Nat.le_refl _, rfl, HS⟩
      case round =>
        obtain ⟨j, rfl, hj1, hj2, hjg, HS⟩ := hrel
        have HJG := Lib.hid hjg
        clear hjg
        by_cases haj : a < j
        · obtain ⟨cs, hp0, ho0, ha0⟩ := HS.out
          have hlen : cs.length = n := by rw [hp0.length_eq]; exact hlen0
          have hp := Lib.hid hp0
          have ho := Lib.hid ho0
          have ha := Lib.hid ha0
          clear hp0 ho0 ha0 HS
          obtain ⟨j, rfl⟩ : ∃ j', j = j' + 1 := ⟨j - 1, by omega⟩
          have hd0 : decide ((a : Int) < (j : Int) + 1) = true := decide_eq_true (by omega)
          have HJW : Hid (IntKind.i64.wrap (j : Int) = (j : Int)) := by show _ = _; exact IntWalk.i64_in _ (by omega)
          have h1 : (0 : Int) ≤ (j : Int) + 1 := by omega
          have h2 : (j : Int) + 1 < (n : Int) := by omega
          have h3 : (0 : Int) ≤ (j : Int) := by omega
          have h4 : (j : Int) < (n : Int) := by omega
          have h5 : ((j : Int) + 1).toNat = j + 1 := by omega
          go_upto_region 4 with (fail)
          obtain ⟨⟨c, A1, n1, c1⟩, hx⟩ : ∃ p, cvOf cs (j + 1) = p := ⟨_, rfl⟩
          obtain ⟨⟨d, A2, n2, c2⟩, hy⟩ : ∃ p, cvOf cs (j) = p := ⟨_, rfl⟩
          refine wp_region_text 17 (fun x9 => (x9.cell? ⟨g, (j + 1) * 7, none⟩ = some (.string c.media) ∧ x9.cell? ⟨g, (j + 1) * 7 + 1, none⟩ = some (.int .i64 c.chan) ∧ x9.cell? ⟨g, (j + 1) * 7 + 2, none⟩ = some (.int .i64 c.from_) ∧ x9.cell? ⟨g, (j + 1) * 7 + 3, none⟩ = some (.int .i64 c.track) ∧ x9.cell? ⟨g, (j + 1) * 7 + 4, none⟩ = some (.int .i64 c.at_) ∧ x9.cell? ⟨g, (j + 1) * 7 + 5, none⟩ = some (.int .i64 c.len) ∧ x9.cell? ⟨g, (j + 1) * 7 + 6, none⟩ = some (.slice A1 n1 c1)) ∧ x9.cell? ⟨g, (j) * 7, none⟩ = some (.string d.media) ∧ x9.cell? ⟨g, (j) * 7 + 1, none⟩ = some (.int .i64 d.chan) ∧ x9.cell? ⟨g, (j) * 7 + 2, none⟩ = some (.int .i64 d.from_) ∧ x9.cell? ⟨g, (j) * 7 + 3, none⟩ = some (.int .i64 d.track) ∧ x9.cell? ⟨g, (j) * 7 + 4, none⟩ = some (.int .i64 d.at_) ∧ x9.cell? ⟨g, (j) * 7 + 5, none⟩ = some (.int .i64 d.len) ∧ x9.cell? ⟨g, (j) * 7 + 6, none⟩ = some (.slice A2 n2 c2)) (by kernel_rfl) (by kernel_rfl) ?_
          obtain ⟨Y, hY⟩ : ∃ Y, Y = wr.drew := ⟨_, rfl⟩
          have HOY : Hid (OwnK 7 58 Y base (.slice (some ⟨g, 0, none⟩) n cap) (cvLs cs)) := by show OwnK _ _ _ _ _ _; rw [hY]; exact ho.out.below (Below.refl _ _).drew
          have HAY : Hid (Alt g (g + 1) w0 Y) := by show Alt _ _ _ _; rw [hY]; exact ha.out.trans (Alt.of_below (Below.refl _ _).drew)
          rw [← hY]
          clear hY
          have hS := And.intro (row_cells (I := j + 1) (by omega) hx HOY.out).1 (row_cells (I := j) (by omega) hy HOY.out).1
          have HX := Lib.hid hx
          have HY := Lib.hid hy
          clear hx hy
          refine HT.take (i := 0) (oi := _) (v := ?_) rfl (by kernel_rfl) (by kernel_rfl) (by decide) (fun _ _ _ h => h) (Or.inl ⟨by rfl, ?_⟩) hS ?_
          rotate_left
          · intro wz
            go_simp
            try with_reducible rfl
          simp only [zA, zB, zC, Act.put, zD, zE, zF]
          refine HT.take (i := 1) (oi := _) (v := ?_) rfl (by kernel_rfl) (by kernel_rfl) (by decide) (fun _ _ _ h => h) (Or.inl ⟨by rfl, ?_⟩) hS ?_
          rotate_left
          · intro wz
            go_simp
            try with_reducible rfl
          simp only [zA, zB, zC, Act.put, zD, zE, zF]
          refine HT.take (i := 2) (oi := _) (v := ?_) rfl (by kernel_rfl) (by kernel_rfl) (by decide) (fun _ _ _ h => h) (Or.inl ⟨by rfl, ?_⟩) hS ?_
          rotate_left
          · intro wz
            go_simp
            try with_reducible rfl
          simp only [zA, zB, zC, Act.put, zD, zE, zF]
          refine HT.take (i := 3) (oi := _) (v := ?_) rfl (by kernel_rfl) (by kernel_rfl) (by decide) (fun _ _ _ h => h) (Or.inl ⟨by rfl, ?_⟩) hS ?_
          rotate_left
          · intro wz
            go_simp
            try with_reducible rfl
          simp only [zA, zB, zC, Act.put, zD, zE, zF]
          refine HT.take (i := 4) (oi := _) (v := ?_) rfl (by kernel_rfl) (by kernel_rfl) (by decide) (fun _ _ _ h => h) (Or.inl ⟨by rfl, ?_⟩) hS ?_
          rotate_left
          · intro wz
            go_simp
            try with_reducible rfl
          simp only [zA, zB, zC, Act.put, zD, zE, zF]
          refine HT.take (i := 5) (oi := _) (v := ?_) rfl (by kernel_rfl) (by kernel_rfl) (by decide) (fun _ _ _ h => h) (Or.inl ⟨by rfl, ?_⟩) hS ?_
          rotate_left
          · intro wz
            go_simp
            try with_reducible rfl
          simp only [zA, zB, zC, Act.put, zD, zE, zF]
          refine HT.take (i := 6) (oi := _) (v := ?_) rfl (by kernel_rfl) (by kernel_rfl) (by decide) (fun _ _ _ h => h) (Or.inl ⟨by rfl, ?_⟩) hS ?_
          rotate_left
          · intro wz
            go_simp
            try with_reducible rfl
          simp only [zA, zB, zC, Act.put, zD, zE, zF]
          refine HT.take (i := 7) (oi := _) (v := ?_) rfl (by kernel_rfl) (by kernel_rfl) (by decide) (fun _ _ _ h => h) (Or.inl ⟨by rfl, ?_⟩) hS ?_
          rotate_left
          · intro wz
            go_simp
            try with_reducible rfl
          simp only [zA, zB, zC, Act.put, zD, zE, zF]
          refine HT.load (i := 8) (oi := _) (v := ?_) rfl (by kernel_rfl) (by kernel_rfl) (by decide) (fun _ _ _ h => h) (by kernel_rfl) (Or.inl ⟨by rfl, ?_⟩) hS ?_
          rotate_left
          · intro wz hwz
            try dsimp only at hwz
            go_simp
            try with_reducible rfl
          simp only [zA, zB, zC, Act.put, zD, zE, zF]
          refine HT.take (i := 9) (oi := _) (v := ?_) rfl (by kernel_rfl) (by kernel_rfl) (by decide) (fun _ _ _ h => h) (Or.inl ⟨by rfl, ?_⟩) hS ?_
          rotate_left
          · intro wz
            go_simp
            try with_reducible rfl
          simp only [zA, zB, zC, Act.put, zD, zE, zF]
          refine HT.take (i := 10) (oi := _) (v := ?_) rfl (by kernel_rfl) (by kernel_rfl) (by decide) (fun _ _ _ h => h) (Or.inl ⟨by rfl, ?_⟩) hS ?_
          rotate_left
          · intro wz
            go_simp
            try with_reducible rfl
          simp only [zA, zB, zC, Act.put, zD, zE, zF]
          refine HT.take (i := 11) (oi := _) (v := ?_) rfl (by kernel_rfl) (by kernel_rfl) (by decide) (fun _ _ _ h => h) (Or.inl ⟨by rfl, ?_⟩) hS ?_
          rotate_left
          · intro wz
            go_simp
            try with_reducible rfl
          simp only [zA, zB, zC, Act.put, zD, zE, zF]
          rw [HJW.out]
          refine HT.take (i := 12) (oi := _) (v := ?_) rfl (by kernel_rfl) (by kernel_rfl) (by decide) (fun _ _ _ h => h) (Or.inl ⟨by rfl, ?_⟩) hS ?_
          rotate_left
          · intro wz
            go_simp
            try with_reducible rfl
          simp only [zA, zB, zC, Act.put, zD, zE, zF]
          refine HT.load (i := 13) (oi := _) (v := ?_) rfl (by kernel_rfl) (by kernel_rfl) (by decide) (fun _ _ _ h => h) (by kernel_rfl) (Or.inl ⟨by rfl, ?_⟩) hS ?_
          rotate_left
          · intro wz hwz
            try dsimp only at hwz
            go_simp
            try with_reducible rfl
          simp only [zA, zB, zC, Act.put, zD, zE, zF]
          refine HT.one (i := 14) (o := _) rfl (by kernel_rfl) (by decide) (by rfl) ?_
          intro K hK
          go_simp
          refine (ECOMPARE_any c d (.slice A1 n1 c1) (.slice A2 n2 c2) Y).mono ?_
          rintro e w8 ⟨rfl, hb8⟩
          have HO8 := Lib.hid (HOY.out.below hb8)
          have HA8 : Hid (Alt g (g + 1) w0 w8) := HAY.out.trans (Alt.of_below hb8)
          clear hb8
          have hS8 := And.intro (row_cells (I := j + 1) (by omega) HX.out HO8.out).1 (row_cells (I := j) (by omega) HY.out HO8.out).1
          refine hK.out _ _ hS8 ?_
          clear hK K hS HOY HAY
          obtain ⟨q, hq⟩ : ∃ q, cmpC c d = q := ⟨_, rfl⟩
          rw [hq]
          clear hq
          try simp only [zA, zB, zC, Act.put, zD, zE, zF]
          have hS := hS8
          clear hS8
          by_cases hq0 : q < 0
          ·
            have hqd : decide (q < 0) = true := decide_eq_true hq0
            refine HT.take (i := 15) (oi := _) (v := ?_) rfl (by kernel_rfl) (by kernel_rfl) (by decide) (fun _ _ _ h => h) (Or.inl ⟨by rfl, ?_⟩) hS ?_
            rotate_left
            · intro wz
              go_simp
              try with_reducible rfl
            simp only [zA, zB, zC, Act.put, zD, zE, zF]
            refine HT.take (i := 16) (oi := _) (v := ?_) rfl (by kernel_rfl) (by kernel_rfl) (by decide) (fun _ _ _ h => h) (Or.inl ⟨by rfl, ?_⟩) hS ?_
            rotate_left
            · intro wz
              go_simp
              try with_reducible rfl
            simp only [zA, zB, zC, Act.put, zD, zE, zF]
            refine HT.done (by kernel_rfl) ?_
            clear hS
            simp only [List.drop_succ_cons, List.drop_zero]
            clear hqd
            have HS8 : Hid (SortC base g n cap cs0 w0 w8) := ⟨cs, hp.out, HO8.out, HA8.out⟩
            have ho := HO8
            have ha := HA8
            clear HO8 HA8 HX HY
            go_upto_region 6 with (fail)
            obtain ⟨⟨c, A1, n1, c1⟩, hx⟩ : ∃ p, cvOf cs (j + 1) = p := ⟨_, rfl⟩
            obtain ⟨⟨d, A2, n2, c2⟩, hy⟩ : ∃ p, cvOf cs (j) = p := ⟨_, rfl⟩
            refine wp_region_text 14 (fun x9 => (x9.cell? ⟨g, (j + 1) * 7, none⟩ = some (.string c.media) ∧ x9.cell? ⟨g, (j + 1) * 7 + 1, none⟩ = some (.int .i64 c.chan) ∧ x9.cell? ⟨g, (j + 1) * 7 + 2, none⟩ = some (.int .i64 c.from_) ∧ x9.cell? ⟨g, (j + 1) * 7 + 3, none⟩ = some (.int .i64 c.track) ∧ x9.cell? ⟨g, (j + 1) * 7 + 4, none⟩ = some (.int .i64 c.at_) ∧ x9.cell? ⟨g, (j + 1) * 7 + 5, none⟩ = some (.int .i64 c.len) ∧ x9.cell? ⟨g, (j + 1) * 7 + 6, none⟩ = some (.slice A1 n1 c1)) ∧ x9.cell? ⟨g, (j) * 7, none⟩ = some (.string d.media) ∧ x9.cell? ⟨g, (j) * 7 + 1, none⟩ = some (.int .i64 d.chan) ∧ x9.cell? ⟨g, (j) * 7 + 2, none⟩ = some (.int .i64 d.from_) ∧ x9.cell? ⟨g, (j) * 7 + 3, none⟩ = some (.int .i64 d.track) ∧ x9.cell? ⟨g, (j) * 7 + 4, none⟩ = some (.int .i64 d.at_) ∧ x9.cell? ⟨g, (j) * 7 + 5, none⟩ = some (.int .i64 d.len) ∧ x9.cell? ⟨g, (j) * 7 + 6, none⟩ = some (.slice A2 n2 c2)) (by kernel_rfl) (by kernel_rfl) ?_
            obtain ⟨Y, hY⟩ : ∃ Y, Y = w8.drew := ⟨_, rfl⟩
            have HOY : Hid (OwnK 7 58 Y base (.slice (some ⟨g, 0, none⟩) n cap) (cvLs cs)) := by show OwnK _ _ _ _ _ _; rw [hY]; exact ho.out.below (Below.refl _ _).drew
            have HAY : Hid (Alt g (g + 1) w0 Y) := by show Alt _ _ _ _; rw [hY]; exact ha.out.trans (Alt.of_below (Below.refl _ _).drew)
            rw [← hY]
            clear hY
            have HRF1 := Lib.hid (row_cells (I := j + 1) (by omega) hx HOY.out)
            have HRF2 := Lib.hid (row_cells (I := j) (by omega) hy HOY.out)
            have HX := Lib.hid hx
            have HY := Lib.hid hy
            clear hx hy
            have hS := And.intro HRF1.out.1 HRF2.out.1
            refine HT.take (i := 0) (oi := _) (v := ?_) rfl (by kernel_rfl) (by kernel_rfl) (by decide) (fun _ _ _ h => h) (Or.inl ⟨by rfl, ?_⟩) hS ?_
            rotate_left
            · intro wz
              go_simp
              try with_reducible rfl
            simp only [zA, zB, zC, Act.put, zD, zE, zF]
            refine HT.take (i := 1) (oi := _) (v := ?_) rfl (by kernel_rfl) (by kernel_rfl) (by decide) (fun _ _ _ h => h) (Or.inl ⟨by rfl, ?_⟩) hS ?_
            rotate_left
            · intro wz
              go_simp
              try with_reducible rfl
            simp only [zA, zB, zC, Act.put, zD, zE, zF]
            refine HT.take (i := 2) (oi := _) (v := ?_) rfl (by kernel_rfl) (by kernel_rfl) (by decide) (fun _ _ _ h => h) (Or.inl ⟨by rfl, ?_⟩) hS ?_
            rotate_left
            · intro wz
              go_simp
              try with_reducible rfl
            simp only [zA, zB, zC, Act.put, zD, zE, zF]
            refine HT.take (i := 3) (oi := _) (v := ?_) rfl (by kernel_rfl) (by kernel_rfl) (by decide) (fun _ _ _ h => h) (Or.inl ⟨by rfl, ?_⟩) hS ?_
            rotate_left
            · intro wz
              go_simp
              try with_reducible rfl
            simp only [zA, zB, zC, Act.put, zD, zE, zF]
            refine HT.take (i := 4) (oi := _) (v := ?_) rfl (by kernel_rfl) (by kernel_rfl) (by decide) (fun _ _ _ h => h) (Or.inl ⟨by rfl, ?_⟩) hS ?_
            rotate_left
            · intro wz
              go_simp
              try with_reducible rfl
            simp only [zA, zB, zC, Act.put, zD, zE, zF]
            rw [HJW.out]
            refine HT.take (i := 5) (oi := _) (v := ?_) rfl (by kernel_rfl) (by kernel_rfl) (by decide) (fun _ _ _ h => h) (Or.inl ⟨by rfl, ?_⟩) hS ?_
            rotate_left
            · intro wz
              go_simp
              try with_reducible rfl
            simp only [zA, zB, zC, Act.put, zD, zE, zF]
            refine HT.take (i := 6) (oi := _) (v := ?_) rfl (by kernel_rfl) (by kernel_rfl) (by decide) (fun _ _ _ h => h) (Or.inl ⟨by rfl, ?_⟩) hS ?_
            rotate_left
            · intro wz
              go_simp
              try with_reducible rfl
            simp only [zA, zB, zC, Act.put, zD, zE, zF]
            refine HT.take (i := 7) (oi := _) (v := ?_) rfl (by kernel_rfl) (by kernel_rfl) (by decide) (fun _ _ _ h => h) (Or.inl ⟨by rfl, ?_⟩) hS ?_
            rotate_left
            · intro wz
              go_simp
              try with_reducible rfl
            simp only [zA, zB, zC, Act.put, zD, zE, zF]
            rw [HJW.out]
            refine HT.take (i := 8) (oi := _) (v := ?_) rfl (by kernel_rfl) (by kernel_rfl) (by decide) (fun _ _ _ h => h) (Or.inl ⟨by rfl, ?_⟩) hS ?_
            rotate_left
            · intro wz
              go_simp
              try with_reducible rfl
            simp only [zA, zB, zC, Act.put, zD, zE, zF]
            refine HT.load (i := 9) (oi := _) (v := ?_) rfl (by kernel_rfl) (by kernel_rfl) (by decide) (fun _ _ _ h => h) (by kernel_rfl) (Or.inl ⟨by rfl, ?_⟩) hS ?_
            rotate_left
            · intro wz hwz
              try dsimp only at hwz
              go_simp
              try with_reducible rfl
            simp only [zA, zB, zC, Act.put, zD, zE, zF]
            refine HT.take (i := 10) (oi := _) (v := ?_) rfl (by kernel_rfl) (by kernel_rfl) (by decide) (fun _ _ _ h => h) (Or.inl ⟨by rfl, ?_⟩) hS ?_
            rotate_left
            · intro wz
              go_simp
              try with_reducible rfl
            simp only [zA, zB, zC, Act.put, zD, zE, zF]
            refine HT.take (i := 11) (oi := _) (v := ?_) rfl (by kernel_rfl) (by kernel_rfl) (by decide) (fun _ _ _ h => h) (Or.inl ⟨by rfl, ?_⟩) hS ?_
            rotate_left
            · intro wz
              go_simp
              try with_reducible rfl
            simp only [zA, zB, zC, Act.put, zD, zE, zF]
            refine HT.take (i := 12) (oi := _) (v := ?_) rfl (by kernel_rfl) (by kernel_rfl) (by decide) (fun _ _ _ h => h) (Or.inl ⟨by rfl, ?_⟩) hS ?_
            rotate_left
            · intro wz
              go_simp
              try with_reducible rfl
            simp only [zA, zB, zC, Act.put, zD, zE, zF]
            refine HT.load (i := 13) (oi := _) (v := ?_) rfl (by kernel_rfl) (by kernel_rfl) (by decide) (fun _ _ _ h => h) (by kernel_rfl) (Or.inl ⟨by rfl, ?_⟩) hS ?_
            rotate_left
            · intro wz hwz
              try dsimp only at hwz
              go_simp
              try with_reducible rfl
            simp only [zA, zB, zC, Act.put, zD, zE, zF]
            refine HT.done (by kernel_rfl) ?_
            clear hS
            simp only [List.drop_succ_cons, List.drop_zero]
            obtain ⟨⟨a0, a1, a2, a3, a4, a5, a6⟩, f0, f1, f2, f3, f4, f5, f6⟩ := HRF1.out
            obtain ⟨⟨b0, b1, b2, b3, b4, b5, b6⟩, k0, k1, k2, k3, k4, k5, k6⟩ := HRF2.out
            have e0 : ¬ (j) * 7 = (j + 1) * 7 := by omega
            have e0s : ¬ (j + 1) * 7 = (j) * 7 := by omega
            have e1 : ¬ (j) * 7 + 1 = (j + 1) * 7 := by omega
            have e1s : ¬ (j + 1) * 7 = (j) * 7 + 1 := by omega
            have m1 : ¬ (j) * 7 = (j + 1) * 7 + 1 := by omega
            have m1s : ¬ (j + 1) * 7 + 1 = (j) * 7 := by omega
            have e2 : ¬ (j) * 7 + 2 = (j + 1) * 7 := by omega
            have e2s : ¬ (j + 1) * 7 = (j) * 7 + 2 := by omega
            have m2 : ¬ (j) * 7 = (j + 1) * 7 + 2 := by omega
            have m2s : ¬ (j + 1) * 7 + 2 = (j) * 7 := by omega
            have e3 : ¬ (j) * 7 + 3 = (j + 1) * 7 := by omega
            have e3s : ¬ (j + 1) * 7 = (j) * 7 + 3 := by omega
            have m3 : ¬ (j) * 7 = (j + 1) * 7 + 3 := by omega
            have m3s : ¬ (j + 1) * 7 + 3 = (j) * 7 := by omega
            have e4 : ¬ (j) * 7 + 4 = (j + 1) * 7 := by omega
            have e4s : ¬ (j + 1) * 7 = (j) * 7 + 4 := by omega
            have m4 : ¬ (j) * 7 = (j + 1) * 7 + 4 := by omega
            have m4s : ¬ (j + 1) * 7 + 4 = (j) * 7 := by omega
            have e5 : ¬ (j) * 7 + 5 = (j + 1) * 7 := by omega
            have e5s : ¬ (j + 1) * 7 = (j) * 7 + 5 := by omega
            have m5 : ¬ (j) * 7 = (j + 1) * 7 + 5 := by omega
            have m5s : ¬ (j + 1) * 7 + 5 = (j) * 7 := by omega
            have e6 : ¬ (j) * 7 + 6 = (j + 1) * 7 := by omega
            have e6s : ¬ (j + 1) * 7 = (j) * 7 + 6 := by omega
            have m6 : ¬ (j) * 7 = (j + 1) * 7 + 6 := by omega
            have m6s : ¬ (j + 1) * 7 + 6 = (j) * 7 := by omega
            go_wp2_with fail
            obtain ⟨V, hV, HSV⟩ := exch7 (I := j + 1) (J := j) (by omega) (by omega) HX.out HY.out HOY.out HAY.out hp.out
            rw [← hV]
            clear hV a0 a1 a2 a3 a4 a5 a6 b0 b1 b2 b3 b4 b5 b6 f0 f1 f2 f3 f4 f5 f6 k0 k1 k2 k3 k4 k5 k6 HX HY HRF1 HRF2 e0 e0s e1 e1s m1 m1s e2 e2s m2 m2s e3 e3s m3 m3s e4 e4s m4 m4s e5 e5s m5 m5s e6 e6s m6 m6s
            go_roundg j
            case measure => have := HJG.out; omega
            case rel => exact ⟨j, by go_num, by omega, by omega, rfl, HSV⟩
          ·
            have hqd : decide (q < 0) = false := decide_eq_false hq0
            refine HT.take (i := 15) (oi := _) (v := ?_) rfl (by kernel_rfl) (by kernel_rfl) (by decide) (fun _ _ _ h => h) (Or.inl ⟨by rfl, ?_⟩) hS ?_
            rotate_left
            · intro wz
              go_simp
              try with_reducible rfl
            simp only [zA, zB, zC, Act.put, zD, zE, zF]
            refine HT.take (i := 16) (oi := _) (v := ?_) rfl (by kernel_rfl) (by kernel_rfl) (by decide) (fun _ _ _ h => h) (Or.inl ⟨by rfl, ?_⟩) hS ?_
            rotate_left
            · intro wz
              go_simp
              try with_reducible rfl
            simp only [zA, zB, zC, Act.put, zD, zE, zF]
            refine HT.done (by kernel_rfl) ?_
            clear hS
            simp only [List.drop_succ_cons, List.drop_zero]
            clear hqd
            have HS8 : Hid (SortC base g n cap cs0 w0 w8) := ⟨cs, hp.out, HO8.out, HA8.out⟩
            go_wp2_with fail
            go_roundg (g1 - 1)
            case measure => omega
            case rel => exact ⟨i + 1, by go_num, by omega, by omega, by omega, HS8⟩
        · have hd0 : decide ((a : Int) < (j : Int)) = false := decide_eq_false (by omega)
          have HSd := Lib.hid HS.out.drew
          go_upto_region 4 with (fail)
          go_quiet (fail)
          have HSq : Hid (SortC base g n cap cs0 w0 (wr.drewN nq)) := HS.out.below (belowN (Below.refl _ _) _)
          clear HSd
          go_wp2_with fail
          go_roundg (g1 - 1)
          case measure => omega
          case rel => exact ⟨i + 1, by go_num, by omega, by omega, by omega, HSq⟩
    · have hib : ¬ (i : Int) < (b : Int) := by omega
      go_wp2_with fail
      refine bodyPost_end (v := .tuple #[]) (by simp [results, Tryz.results145, go_sem]) rfl ?_
      exact ⟨rfl, HS.out⟩
end Go.Proofs.YtkmcohnhanphdaaGreatDoor
/- The stable sort of clips: symMerge (printed by tools/mksort.py). -/
namespace Go.Proofs.YtkmcohnhanphdaaGreatDoor
open Go.RowKit Go.Dw
attribute [local go_sem ↓] Go.wp_at_zero Go.wp_at_succ
set_option maxRecDepth 100000 in
set_option maxHeartbeats 16000000 in
theorem SYMMC_one (base g n cap a m b : Nat) (cs : List CV) (hm1 : m ≤ a + 1) (hm2 : a + 1 ≤ m) (hmb : m < b) (hbn : b ≤ n) (hn : n ≤ 1000000) (w : World) (hh : Hid (OwnK 7 58 w base (.slice (some ⟨g, 0, none⟩) n cap) (cvLs cs))) :
    Calls Tryz.prog 146 #[.slice (some ⟨g, 0, none⟩) n cap, .int .i64 (a : Int), .int .i64 (m : Int), .int .i64 (b : Int), .func (.func 49) #[] #[]] w fun e w' => e = .returned (.tuple #[]) ∧ SortC base g n cap cs w w' := by
  have HST : Hid (SortC base g n cap cs w w) := SortC.refl hh.out
  have hnl : n = cs.length := by rw [← cvLs_len]; exact hh.out.len_eq
  obtain ⟨w0, rfl⟩ : ∃ x : World, x = w := ⟨_, rfl⟩
  obtain ⟨cs0, hcs0⟩ : ∃ x : List CV, x = cs := ⟨_, rfl⟩
  rw [← hcs0] at HST ⊢
  have hlen0 : cs0.length = n := by rw [hcs0]; exact hnl.symm
  clear hcs0 hnl hh cs
  have d1 : ((m : Int) - (a : Int) == 1) = true := by simp; omega
  go_enter Tryz.func146, Tryz.ntmps146
  go_wp2_with fail
  go_loopg [10, 11] (b - m) (fun gh v10 v11 wr => ∃ i j : Nat, v10 = .int .i64 i ∧ v11 = .int .i64 j ∧ m ≤ i ∧ i ≤ j ∧ j ≤ b ∧ j ≤ i + gh ∧ Hid (SortC base g n cap cs0 w0 wr))
  case atStart => exact ⟨m, b, rfl, rfl, by omega, by omega, by omega, by omega, HST⟩
  case round =>
    obtain ⟨i, j, rfl, rfl, hi1, hij, hjb, hg9, HS⟩ := hrel
    by_cases hlt : i < j
    · have hltI : (i : Int) < (j : Int) := by omega
      obtain ⟨h, hh2, hah, hhb⟩ : ∃ h : Nat, (((i : Int) + (j : Int)) / 2 = (h : Int)) ∧ i ≤ h ∧ h < j := ⟨(i + j) / 2, by omega, by omega, by omega⟩
      obtain ⟨cs, hp0, ho0, ha0⟩ := HS.out
      have hlen : cs.length = n := by rw [hp0.length_eq]; exact hlen0
      have hp := Lib.hid hp0
      have ho := Lib.hid ho0
      have ha := Lib.hid ha0
      clear hp0 ho0 ha0 HS
      have h1 : (0 : Int) ≤ (h : Int) := by omega
      have h2 : (h : Int) < (n : Int) := by omega
      have h3 : (0 : Int) ≤ (a : Int) := by omega
      have h4 : (a : Int) < (n : Int) := by omega
      go_upto_region 5 with (fail)
      clear hh2
      obtain ⟨⟨c, A1, n1, c1⟩, hx⟩ : ∃ p, cvOf cs (h) = p := ⟨_, rfl⟩
      obtain ⟨⟨d, A2, n2, c2⟩, hy⟩ : ∃ p, cvOf cs (a) = p := ⟨_, rfl⟩
      refine wp_region_text 11 (fun x9 => (x9.cell? ⟨g, (h) * 7, none⟩ = some (.string c.media) ∧ x9.cell? ⟨g, (h) * 7 + 1, none⟩ = some (.int .i64 c.chan) ∧ x9.cell? ⟨g, (h) * 7 + 2, none⟩ = some (.int .i64 c.from_) ∧ x9.cell? ⟨g, (h) * 7 + 3, none⟩ = some (.int .i64 c.track) ∧ x9.cell? ⟨g, (h) * 7 + 4, none⟩ = some (.int .i64 c.at_) ∧ x9.cell? ⟨g, (h) * 7 + 5, none⟩ = some (.int .i64 c.len) ∧ x9.cell? ⟨g, (h) * 7 + 6, none⟩ = some (.slice A1 n1 c1)) ∧ x9.cell? ⟨g, (a) * 7, none⟩ = some (.string d.media) ∧ x9.cell? ⟨g, (a) * 7 + 1, none⟩ = some (.int .i64 d.chan) ∧ x9.cell? ⟨g, (a) * 7 + 2, none⟩ = some (.int .i64 d.from_) ∧ x9.cell? ⟨g, (a) * 7 + 3, none⟩ = some (.int .i64 d.track) ∧ x9.cell? ⟨g, (a) * 7 + 4, none⟩ = some (.int .i64 d.at_) ∧ x9.cell? ⟨g, (a) * 7 + 5, none⟩ = some (.int .i64 d.len) ∧ x9.cell? ⟨g, (a) * 7 + 6, none⟩ = some (.slice A2 n2 c2)) (by kernel_rfl) (by kernel_rfl) ?_
      obtain ⟨Y, hY⟩ : ∃ Y, Y = wr.drew := ⟨_, rfl⟩
      have HOY : Hid (OwnK 7 58 Y base (.slice (some ⟨g, 0, none⟩) n cap) (cvLs cs)) := by show OwnK _ _ _ _ _ _; rw [hY]; exact ho.out.below (Below.refl _ _).drew
      have HAY : Hid (Alt g (g + 1) w0 Y) := by show Alt _ _ _ _; rw [hY]; exact ha.out.trans (Alt.of_below (Below.refl _ _).drew)
      rw [← hY]
      clear hY
      have hS := And.intro (row_cells (I := h) (by omega) hx HOY.out).1 (row_cells (I := a) (by omega) hy HOY.out).1
      have HX := Lib.hid hx
      have HY := Lib.hid hy
      clear hx hy
      refine HT.take (i := 0) (oi := _) (v := ?_) rfl (by kernel_rfl) (by kernel_rfl) (by decide) (fun _ _ _ h => h) (Or.inl ⟨by rfl, ?_⟩) hS ?_
      rotate_left
      · intro wz
        go_simp
        try with_reducible rfl
      simp only [zA, zB, zC, Act.put, zD, zE, zF]
      refine HT.take (i := 1) (oi := _) (v := ?_) rfl (by kernel_rfl) (by kernel_rfl) (by decide) (fun _ _ _ h => h) (Or.inl ⟨by rfl, ?_⟩) hS ?_
      rotate_left
      · intro wz
        go_simp
        try with_reducible rfl
      simp only [zA, zB, zC, Act.put, zD, zE, zF]
      refine HT.take (i := 2) (oi := _) (v := ?_) rfl (by kernel_rfl) (by kernel_rfl) (by decide) (fun _ _ _ h => h) (Or.inl ⟨by rfl, ?_⟩) hS ?_
      rotate_left
      · intro wz
        go_simp
        try with_reducible rfl
      simp only [zA, zB, zC, Act.put, zD, zE, zF]
      refine HT.take (i := 3) (oi := _) (v := ?_) rfl (by kernel_rfl) (by kernel_rfl) (by decide) (fun _ _ _ h => h) (Or.inl ⟨by rfl, ?_⟩) hS ?_
      rotate_left
      · intro wz
        go_simp
        try with_reducible rfl
      simp only [zA, zB, zC, Act.put, zD, zE, zF]
      refine HT.load (i := 4) (oi := _) (v := ?_) rfl (by kernel_rfl) (by kernel_rfl) (by decide) (fun _ _ _ h => h) (by kernel_rfl) (Or.inl ⟨by rfl, ?_⟩) hS ?_
      rotate_left
      · intro wz hwz
        try dsimp only at hwz
        go_simp
        try with_reducible rfl
      simp only [zA, zB, zC, Act.put, zD, zE, zF]
      refine HT.take (i := 5) (oi := _) (v := ?_) rfl (by kernel_rfl) (by kernel_rfl) (by decide) (fun _ _ _ h => h) (Or.inl ⟨by rfl, ?_⟩) hS ?_
      rotate_left
      · intro wz
        go_simp
        try with_reducible rfl
      simp only [zA, zB, zC, Act.put, zD, zE, zF]
      refine HT.take (i := 6) (oi := _) (v := ?_) rfl (by kernel_rfl) (by kernel_rfl) (by decide) (fun _ _ _ h => h) (Or.inl ⟨by rfl, ?_⟩) hS ?_
      rotate_left
      · intro wz
        go_simp
        try with_reducible rfl
      simp only [zA, zB, zC, Act.put, zD, zE, zF]
      refine HT.take (i := 7) (oi := _) (v := ?_) rfl (by kernel_rfl) (by kernel_rfl) (by decide) (fun _ _ _ h => h) (Or.inl ⟨by rfl, ?_⟩) hS ?_
      rotate_left
      · intro wz
        go_simp
        try with_reducible rfl
      simp only [zA, zB, zC, Act.put, zD, zE, zF]
      refine HT.load (i := 8) (oi := _) (v := ?_) rfl (by kernel_rfl) (by kernel_rfl) (by decide) (fun _ _ _ h => h) (by kernel_rfl) (Or.inl ⟨by rfl, ?_⟩) hS ?_
      rotate_left
      · intro wz hwz
        try dsimp only at hwz
        go_simp
        try with_reducible rfl
      simp only [zA, zB, zC, Act.put, zD, zE, zF]
      refine HT.one (i := 9) (o := _) rfl (by kernel_rfl) (by decide) (by rfl) ?_
      intro K hK
      go_simp
      refine (ECOMPARE_any c d (.slice A1 n1 c1) (.slice A2 n2 c2) Y).mono ?_
      rintro e w8 ⟨rfl, hb8⟩
      have HO8 := Lib.hid (HOY.out.below hb8)
      have HA8 : Hid (Alt g (g + 1) w0 w8) := HAY.out.trans (Alt.of_below hb8)
      clear hb8
      have hS8 := And.intro (row_cells (I := h) (by omega) HX.out HO8.out).1 (row_cells (I := a) (by omega) HY.out HO8.out).1
      refine hK.out _ _ hS8 ?_
      clear hK K hS HOY HAY
      obtain ⟨q, hq⟩ : ∃ q, cmpC c d = q := ⟨_, rfl⟩
      rw [hq]
      clear hq
      try simp only [zA, zB, zC, Act.put, zD, zE, zF]
      have hS := hS8
      clear hS8
      by_cases hq0 : q < 0
      ·
        have hqd : decide (q < 0) = true := decide_eq_true hq0
        refine HT.take (i := 10) (oi := _) (v := ?_) rfl (by kernel_rfl) (by kernel_rfl) (by decide) (fun _ _ _ h => h) (Or.inl ⟨by rfl, ?_⟩) hS ?_
        rotate_left
        · intro wz
          go_simp
          try with_reducible rfl
        simp only [zA, zB, zC, Act.put, zD, zE, zF]
        refine HT.done (by kernel_rfl) ?_
        clear hS
        simp only [List.drop_succ_cons, List.drop_zero]
        clear hqd
        have HS8 : Hid (SortC base g n cap cs0 w0 w8) := ⟨cs, hp.out, HO8.out, HA8.out⟩
        go_wp2_with fail
        go_roundg (j - (h + 1))
        case measure => omega
        case rel => exact ⟨h + 1, j, by go_num, rfl, by omega, by omega, by omega, by omega, HS8⟩
      ·
        have hqd : decide (q < 0) = false := decide_eq_false hq0
        refine HT.take (i := 10) (oi := _) (v := ?_) rfl (by kernel_rfl) (by kernel_rfl) (by decide) (fun _ _ _ h => h) (Or.inl ⟨by rfl, ?_⟩) hS ?_
        rotate_left
        · intro wz
          go_simp
          try with_reducible rfl
        simp only [zA, zB, zC, Act.put, zD, zE, zF]
        refine HT.done (by kernel_rfl) ?_
        clear hS
        simp only [List.drop_succ_cons, List.drop_zero]
        clear hqd
        have HS8 : Hid (SortC base g n cap cs0 w0 w8) := ⟨cs, hp.out, HO8.out, HA8.out⟩
        go_wp2_with fail
        go_roundg (h - i)
        case measure => omega
        case rel => exact ⟨i, h, rfl, rfl, by omega, by omega, by omega, by omega, HS8⟩
    · obtain rfl : i = j := by omega
      go_wp2_with fail
      go_loopg [13] i (fun gh v13 wr => ∃ k : Nat, v13 = .int .i64 k ∧ a ≤ k ∧ k ≤ i ∧ i ≤ k + gh ∧ Hid (SortC base g n cap cs0 w0 wr))
      case atStart => exact ⟨a, rfl, by omega, by omega, by omega, HS⟩
      case round =>
        obtain ⟨k, rfl, hk1, hk2, hkg, HS⟩ := hrel
        by_cases hki : k + 1 < i
        · have hkI : (k : Int) < (i : Int) - 1 := by omega
          obtain ⟨cs, hp0, ho0, ha0⟩ := HS.out
          have hlen : cs.length = n := by rw [hp0.length_eq]; exact hlen0
          have hp := Lib.hid hp0
          have ho := Lib.hid ho0
          have ha := Lib.hid ha0
          clear hp0 ho0 ha0 HS
          have HKW : Hid (IntKind.i64.wrap ((k : Int) + 1) = (k : Int) + 1) := by show _ = _; exact IntWalk.i64_in _ (by omega)
          have h1 : (0 : Int) ≤ (k : Int) + 1 := by omega
          have h2 : (k : Int) + 1 < (n : Int) := by omega
          have h3 : (0 : Int) ≤ (k : Int) := by omega
          have h4 : (k : Int) < (n : Int) := by omega
          have h5 : ((k : Int) + 1).toNat = k + 1 := by omega
          go_upto_region 11 with (fail)
          obtain ⟨⟨c, A1, n1, c1⟩, hx⟩ : ∃ p, cvOf cs (k) = p := ⟨_, rfl⟩
          obtain ⟨⟨d, A2, n2, c2⟩, hy⟩ : ∃ p, cvOf cs (k + 1) = p := ⟨_, rfl⟩
          refine wp_region_text 14 (fun x9 => (x9.cell? ⟨g, (k) * 7, none⟩ = some (.string c.media) ∧ x9.cell? ⟨g, (k) * 7 + 1, none⟩ = some (.int .i64 c.chan) ∧ x9.cell? ⟨g, (k) * 7 + 2, none⟩ = some (.int .i64 c.from_) ∧ x9.cell? ⟨g, (k) * 7 + 3, none⟩ = some (.int .i64 c.track) ∧ x9.cell? ⟨g, (k) * 7 + 4, none⟩ = some (.int .i64 c.at_) ∧ x9.cell? ⟨g, (k) * 7 + 5, none⟩ = some (.int .i64 c.len) ∧ x9.cell? ⟨g, (k) * 7 + 6, none⟩ = some (.slice A1 n1 c1)) ∧ x9.cell? ⟨g, (k + 1) * 7, none⟩ = some (.string d.media) ∧ x9.cell? ⟨g, (k + 1) * 7 + 1, none⟩ = some (.int .i64 d.chan) ∧ x9.cell? ⟨g, (k + 1) * 7 + 2, none⟩ = some (.int .i64 d.from_) ∧ x9.cell? ⟨g, (k + 1) * 7 + 3, none⟩ = some (.int .i64 d.track) ∧ x9.cell? ⟨g, (k + 1) * 7 + 4, none⟩ = some (.int .i64 d.at_) ∧ x9.cell? ⟨g, (k + 1) * 7 + 5, none⟩ = some (.int .i64 d.len) ∧ x9.cell? ⟨g, (k + 1) * 7 + 6, none⟩ = some (.slice A2 n2 c2)) (by kernel_rfl) (by kernel_rfl) ?_
          obtain ⟨Y, hY⟩ : ∃ Y, Y = wr.drew := ⟨_, rfl⟩
          have HOY : Hid (OwnK 7 58 Y base (.slice (some ⟨g, 0, none⟩) n cap) (cvLs cs)) := by show OwnK _ _ _ _ _ _; rw [hY]; exact ho.out.below (Below.refl _ _).drew
          have HAY : Hid (Alt g (g + 1) w0 Y) := by show Alt _ _ _ _; rw [hY]; exact ha.out.trans (Alt.of_below (Below.refl _ _).drew)
          rw [← hY]
          clear hY
          have HRF1 := Lib.hid (row_cells (I := k) (by omega) hx HOY.out)
          have HRF2 := Lib.hid (row_cells (I := k + 1) (by omega) hy HOY.out)
          have HX := Lib.hid hx
          have HY := Lib.hid hy
          clear hx hy
          have hS := And.intro HRF1.out.1 HRF2.out.1
          refine HT.take (i := 0) (oi := _) (v := ?_) rfl (by kernel_rfl) (by kernel_rfl) (by decide) (fun _ _ _ h => h) (Or.inl ⟨by rfl, ?_⟩) hS ?_
          rotate_left
          · intro wz
            go_simp
            try with_reducible rfl
          simp only [zA, zB, zC, Act.put, zD, zE, zF]
          refine HT.take (i := 1) (oi := _) (v := ?_) rfl (by kernel_rfl) (by kernel_rfl) (by decide) (fun _ _ _ h => h) (Or.inl ⟨by rfl, ?_⟩) hS ?_
          rotate_left
          · intro wz
            go_simp
            try with_reducible rfl
          simp only [zA, zB, zC, Act.put, zD, zE, zF]
          refine HT.take (i := 2) (oi := _) (v := ?_) rfl (by kernel_rfl) (by kernel_rfl) (by decide) (fun _ _ _ h => h) (Or.inl ⟨by rfl, ?_⟩) hS ?_
          rotate_left
          · intro wz
            go_simp
            try with_reducible rfl
          simp only [zA, zB, zC, Act.put, zD, zE, zF]
          refine HT.take (i := 3) (oi := _) (v := ?_) rfl (by kernel_rfl) (by kernel_rfl) (by decide) (fun _ _ _ h => h) (Or.inl ⟨by rfl, ?_⟩) hS ?_
          rotate_left
          · intro wz
            go_simp
            try with_reducible rfl
          simp only [zA, zB, zC, Act.put, zD, zE, zF]
          refine HT.take (i := 4) (oi := _) (v := ?_) rfl (by kernel_rfl) (by kernel_rfl) (by decide) (fun _ _ _ h => h) (Or.inl ⟨by rfl, ?_⟩) hS ?_
          rotate_left
          · intro wz
            go_simp
            try with_reducible rfl
          simp only [zA, zB, zC, Act.put, zD, zE, zF]
          rw [HKW.out]
          refine HT.take (i := 5) (oi := _) (v := ?_) rfl (by kernel_rfl) (by kernel_rfl) (by decide) (fun _ _ _ h => h) (Or.inl ⟨by rfl, ?_⟩) hS ?_
          rotate_left
          · intro wz
            go_simp
            try with_reducible rfl
          simp only [zA, zB, zC, Act.put, zD, zE, zF]
          refine HT.take (i := 6) (oi := _) (v := ?_) rfl (by kernel_rfl) (by kernel_rfl) (by decide) (fun _ _ _ h => h) (Or.inl ⟨by rfl, ?_⟩) hS ?_
          rotate_left
          · intro wz
            go_simp
            try with_reducible rfl
          simp only [zA, zB, zC, Act.put, zD, zE, zF]
          refine HT.take (i := 7) (oi := _) (v := ?_) rfl (by kernel_rfl) (by kernel_rfl) (by decide) (fun _ _ _ h => h) (Or.inl ⟨by rfl, ?_⟩) hS ?_
          rotate_left
          · intro wz
            go_simp
            try with_reducible rfl
          simp only [zA, zB, zC, Act.put, zD, zE, zF]
          rw [HKW.out]
          refine HT.take (i := 8) (oi := _) (v := ?_) rfl (by kernel_rfl) (by kernel_rfl) (by decide) (fun _ _ _ h => h) (Or.inl ⟨by rfl, ?_⟩) hS ?_
          rotate_left
          · intro wz
            go_simp
            try with_reducible rfl
          simp only [zA, zB, zC, Act.put, zD, zE, zF]
          refine HT.load (i := 9) (oi := _) (v := ?_) rfl (by kernel_rfl) (by kernel_rfl) (by decide) (fun _ _ _ h => h) (by kernel_rfl) (Or.inl ⟨by rfl, ?_⟩) hS ?_
          rotate_left
          · intro wz hwz
            try dsimp only at hwz
            go_simp
            try with_reducible rfl
          simp only [zA, zB, zC, Act.put, zD, zE, zF]
          refine HT.take (i := 10) (oi := _) (v := ?_) rfl (by kernel_rfl) (by kernel_rfl) (by decide) (fun _ _ _ h => h) (Or.inl ⟨by rfl, ?_⟩) hS ?_
          rotate_left
          · intro wz
            go_simp
            try with_reducible rfl
          simp only [zA, zB, zC, Act.put, zD, zE, zF]
          refine HT.take (i := 11) (oi := _) (v := ?_) rfl (by kernel_rfl) (by kernel_rfl) (by decide) (fun _ _ _ h => h) (Or.inl ⟨by rfl, ?_⟩) hS ?_
          rotate_left
          · intro wz
            go_simp
            try with_reducible rfl
          simp only [zA, zB, zC, Act.put, zD, zE, zF]
          refine HT.take (i := 12) (oi := _) (v := ?_) rfl (by kernel_rfl) (by kernel_rfl) (by decide) (fun _ _ _ h => h) (Or.inl ⟨by rfl, ?_⟩) hS ?_
          rotate_left
          · intro wz
            go_simp
            try with_reducible rfl
          simp only [zA, zB, zC, Act.put, zD, zE, zF]
          refine HT.load (i := 13) (oi := _) (v := ?_) rfl (by kernel_rfl) (by kernel_rfl) (by decide) (fun _ _ _ h => h) (by kernel_rfl) (Or.inl ⟨by rfl, ?_⟩) hS ?_
          rotate_left
          · intro wz hwz
            try dsimp only at hwz
            go_simp
            try with_reducible rfl
          simp only [zA, zB, zC, Act.put, zD, zE, zF]
          refine HT.done (by kernel_rfl) ?_
          clear hS
          simp only [List.drop_succ_cons, List.drop_zero]
          obtain ⟨⟨a0, a1, a2, a3, a4, a5, a6⟩, f0, f1, f2, f3, f4, f5, f6⟩ := HRF1.out
          obtain ⟨⟨b0, b1, b2, b3, b4, b5, b6⟩, k0, k1, k2, k3, k4, k5, k6⟩ := HRF2.out
          have e0 : ¬ (k + 1) * 7 = (k) * 7 := by omega
          have e0s : ¬ (k) * 7 = (k + 1) * 7 := by omega
          have e1 : ¬ (k + 1) * 7 + 1 = (k) * 7 := by omega
          have e1s : ¬ (k) * 7 = (k + 1) * 7 + 1 := by omega
          have m1 : ¬ (k + 1) * 7 = (k) * 7 + 1 := by omega
          have m1s : ¬ (k) * 7 + 1 = (k + 1) * 7 := by omega
          have e2 : ¬ (k + 1) * 7 + 2 = (k) * 7 := by omega
          have e2s : ¬ (k) * 7 = (k + 1) * 7 + 2 := by omega
          have m2 : ¬ (k + 1) * 7 = (k) * 7 + 2 := by omega
          have m2s : ¬ (k) * 7 + 2 = (k + 1) * 7 := by omega
          have e3 : ¬ (k + 1) * 7 + 3 = (k) * 7 := by omega
          have e3s : ¬ (k) * 7 = (k + 1) * 7 + 3 := by omega
          have m3 : ¬ (k + 1) * 7 = (k) * 7 + 3 := by omega
          have m3s : ¬ (k) * 7 + 3 = (k + 1) * 7 := by omega
          have e4 : ¬ (k + 1) * 7 + 4 = (k) * 7 := by omega
          have e4s : ¬ (k) * 7 = (k + 1) * 7 + 4 := by omega
          have m4 : ¬ (k + 1) * 7 = (k) * 7 + 4 := by omega
          have m4s : ¬ (k) * 7 + 4 = (k + 1) * 7 := by omega
          have e5 : ¬ (k + 1) * 7 + 5 = (k) * 7 := by omega
          have e5s : ¬ (k) * 7 = (k + 1) * 7 + 5 := by omega
          have m5 : ¬ (k + 1) * 7 = (k) * 7 + 5 := by omega
          have m5s : ¬ (k) * 7 + 5 = (k + 1) * 7 := by omega
          have e6 : ¬ (k + 1) * 7 + 6 = (k) * 7 := by omega
          have e6s : ¬ (k) * 7 = (k + 1) * 7 + 6 := by omega
          have m6 : ¬ (k + 1) * 7 = (k) * 7 + 6 := by omega
          have m6s : ¬ (k) * 7 + 6 = (k + 1) * 7 := by omega
          go_wp2_with fail
          obtain ⟨V, hV, HSV⟩ := exch7 (I := k) (J := k + 1) (by omega) (by omega) HX.out HY.out HOY.out HAY.out hp.out
          rw [← hV]
          clear hV a0 a1 a2 a3 a4 a5 a6 b0 b1 b2 b3 b4 b5 b6 f0 f1 f2 f3 f4 f5 f6 k0 k1 k2 k3 k4 k5 k6 HX HY HRF1 HRF2 e0 e0s e1 e1s m1 m1s e2 e2s m2 m2s e3 e3s m3 m3s e4 e4s m4 m4s e5 e5s m5 m5s e6 e6s m6 m6s
          go_roundg (i - (k + 1))
          case measure => omega
          case rel => exact ⟨k + 1, by go_num, by omega, by omega, by omega, HSV⟩
        · have hkI : ¬ (k : Int) < (i : Int) - 1 := by omega
          go_wp2_with fail
          refine bodyPost_ret (v := .tuple #[]) (by simp [results, Tryz.results146, go_sem]) rfl ?_
          exact ⟨rfl, HS.out⟩
set_option maxRecDepth 100000 in
set_option maxHeartbeats 16000000 in
theorem SYMMC_two (base g n cap a m b : Nat) (cs : List CV) (ham : a + 2 ≤ m) (hm1 : b ≤ m + 1) (hm2 : m + 1 ≤ b) (hbn : b ≤ n) (hn : n ≤ 1000000) (w : World) (hh : Hid (OwnK 7 58 w base (.slice (some ⟨g, 0, none⟩) n cap) (cvLs cs))) :
    Calls Tryz.prog 146 #[.slice (some ⟨g, 0, none⟩) n cap, .int .i64 (a : Int), .int .i64 (m : Int), .int .i64 (b : Int), .func (.func 49) #[] #[]] w fun e w' => e = .returned (.tuple #[]) ∧ SortC base g n cap cs w w' := by
  have HST : Hid (SortC base g n cap cs w w) := SortC.refl hh.out
  have hnl : n = cs.length := by rw [← cvLs_len]; exact hh.out.len_eq
  obtain ⟨w0, rfl⟩ : ∃ x : World, x = w := ⟨_, rfl⟩
  obtain ⟨cs0, hcs0⟩ : ∃ x : List CV, x = cs := ⟨_, rfl⟩
  rw [← hcs0] at HST ⊢
  have hlen0 : cs0.length = n := by rw [hcs0]; exact hnl.symm
  clear hcs0 hnl hh cs
  have d1 : ((m : Int) - (a : Int) == 1) = false := by simp; omega
  have d2 : ((b : Int) - (m : Int) == 1) = true := by simp; omega
  go_enter Tryz.func146, Tryz.ntmps146
  go_wp2_with fail
  go_loopg [14, 15] (m - a) (fun gh v10 v11 wr => ∃ i j : Nat, v10 = .int .i64 i ∧ v11 = .int .i64 j ∧ a ≤ i ∧ i ≤ j ∧ j ≤ m ∧ j ≤ i + gh ∧ Hid (SortC base g n cap cs0 w0 wr))
  case atStart => exact ⟨a, m, rfl, rfl, by omega, by omega, by omega, by omega, HST⟩
  case round =>
    obtain ⟨i, j, rfl, rfl, hi1, hij, hjb, hg9, HS⟩ := hrel
    by_cases hlt : i < j
    · have hltI : (i : Int) < (j : Int) := by omega
      obtain ⟨h, hh2, hah, hhb⟩ : ∃ h : Nat, (((i : Int) + (j : Int)) / 2 = (h : Int)) ∧ i ≤ h ∧ h < j := ⟨(i + j) / 2, by omega, by omega, by omega⟩
      obtain ⟨cs, hp0, ho0, ha0⟩ := HS.out
      have hlen : cs.length = n := by rw [hp0.length_eq]; exact hlen0
      have hp := Lib.hid hp0
      have ho := Lib.hid ho0
      have ha := Lib.hid ha0
      clear hp0 ho0 ha0 HS
      have h1 : (0 : Int) ≤ (h : Int) := by omega
      have h2 : (h : Int) < (n : Int) := by omega
      have h3 : (0 : Int) ≤ (m : Int) := by omega
      have h4 : (m : Int) < (n : Int) := by omega
      go_upto_region 17 with (fail)
      clear hh2
      obtain ⟨⟨c, A1, n1, c1⟩, hx⟩ : ∃ p, cvOf cs (m) = p := ⟨_, rfl⟩
      obtain ⟨⟨d, A2, n2, c2⟩, hy⟩ : ∃ p, cvOf cs (h) = p := ⟨_, rfl⟩
      refine wp_region_text 12 (fun x9 => (x9.cell? ⟨g, (m) * 7, none⟩ = some (.string c.media) ∧ x9.cell? ⟨g, (m) * 7 + 1, none⟩ = some (.int .i64 c.chan) ∧ x9.cell? ⟨g, (m) * 7 + 2, none⟩ = some (.int .i64 c.from_) ∧ x9.cell? ⟨g, (m) * 7 + 3, none⟩ = some (.int .i64 c.track) ∧ x9.cell? ⟨g, (m) * 7 + 4, none⟩ = some (.int .i64 c.at_) ∧ x9.cell? ⟨g, (m) * 7 + 5, none⟩ = some (.int .i64 c.len) ∧ x9.cell? ⟨g, (m) * 7 + 6, none⟩ = some (.slice A1 n1 c1)) ∧ x9.cell? ⟨g, (h) * 7, none⟩ = some (.string d.media) ∧ x9.cell? ⟨g, (h) * 7 + 1, none⟩ = some (.int .i64 d.chan) ∧ x9.cell? ⟨g, (h) * 7 + 2, none⟩ = some (.int .i64 d.from_) ∧ x9.cell? ⟨g, (h) * 7 + 3, none⟩ = some (.int .i64 d.track) ∧ x9.cell? ⟨g, (h) * 7 + 4, none⟩ = some (.int .i64 d.at_) ∧ x9.cell? ⟨g, (h) * 7 + 5, none⟩ = some (.int .i64 d.len) ∧ x9.cell? ⟨g, (h) * 7 + 6, none⟩ = some (.slice A2 n2 c2)) (by kernel_rfl) (by kernel_rfl) ?_
      obtain ⟨Y, hY⟩ : ∃ Y, Y = wr.drew := ⟨_, rfl⟩
      have HOY : Hid (OwnK 7 58 Y base (.slice (some ⟨g, 0, none⟩) n cap) (cvLs cs)) := by show OwnK _ _ _ _ _ _; rw [hY]; exact ho.out.below (Below.refl _ _).drew
      have HAY : Hid (Alt g (g + 1) w0 Y) := by show Alt _ _ _ _; rw [hY]; exact ha.out.trans (Alt.of_below (Below.refl _ _).drew)
      rw [← hY]
      clear hY
      have hS := And.intro (row_cells (I := m) (by omega) hx HOY.out).1 (row_cells (I := h) (by omega) hy HOY.out).1
      have HX := Lib.hid hx
      have HY := Lib.hid hy
      clear hx hy
      refine HT.take (i := 0) (oi := _) (v := ?_) rfl (by kernel_rfl) (by kernel_rfl) (by decide) (fun _ _ _ h => h) (Or.inl ⟨by rfl, ?_⟩) hS ?_
      rotate_left
      · intro wz
        go_simp
        try with_reducible rfl
      simp only [zA, zB, zC, Act.put, zD, zE, zF]
      refine HT.take (i := 1) (oi := _) (v := ?_) rfl (by kernel_rfl) (by kernel_rfl) (by decide) (fun _ _ _ h => h) (Or.inl ⟨by rfl, ?_⟩) hS ?_
      rotate_left
      · intro wz
        go_simp
        try with_reducible rfl
      simp only [zA, zB, zC, Act.put, zD, zE, zF]
      refine HT.take (i := 2) (oi := _) (v := ?_) rfl (by kernel_rfl) (by kernel_rfl) (by decide) (fun _ _ _ h => h) (Or.inl ⟨by rfl, ?_⟩) hS ?_
      rotate_left
      · intro wz
        go_simp
        try with_reducible rfl
      simp only [zA, zB, zC, Act.put, zD, zE, zF]
      refine HT.take (i := 3) (oi := _) (v := ?_) rfl (by kernel_rfl) (by kernel_rfl) (by decide) (fun _ _ _ h => h) (Or.inl ⟨by rfl, ?_⟩) hS ?_
      rotate_left
      · intro wz
        go_simp
        try with_reducible rfl
      simp only [zA, zB, zC, Act.put, zD, zE, zF]
      refine HT.load (i := 4) (oi := _) (v := ?_) rfl (by kernel_rfl) (by kernel_rfl) (by decide) (fun _ _ _ h => h) (by kernel_rfl) (Or.inl ⟨by rfl, ?_⟩) hS ?_
      rotate_left
      · intro wz hwz
        try dsimp only at hwz
        go_simp
        try with_reducible rfl
      simp only [zA, zB, zC, Act.put, zD, zE, zF]
      refine HT.take (i := 5) (oi := _) (v := ?_) rfl (by kernel_rfl) (by kernel_rfl) (by decide) (fun _ _ _ h => h) (Or.inl ⟨by rfl, ?_⟩) hS ?_
      rotate_left
      · intro wz
        go_simp
        try with_reducible rfl
      simp only [zA, zB, zC, Act.put, zD, zE, zF]
      refine HT.take (i := 6) (oi := _) (v := ?_) rfl (by kernel_rfl) (by kernel_rfl) (by decide) (fun _ _ _ h => h) (Or.inl ⟨by rfl, ?_⟩) hS ?_
      rotate_left
      · intro wz
        go_simp
        try with_reducible rfl
      simp only [zA, zB, zC, Act.put, zD, zE, zF]
      refine HT.take (i := 7) (oi := _) (v := ?_) rfl (by kernel_rfl) (by kernel_rfl) (by decide) (fun _ _ _ h => h) (Or.inl ⟨by rfl, ?_⟩) hS ?_
      rotate_left
      · intro wz
        go_simp
        try with_reducible rfl
      simp only [zA, zB, zC, Act.put, zD, zE, zF]
      refine HT.load (i := 8) (oi := _) (v := ?_) rfl (by kernel_rfl) (by kernel_rfl) (by decide) (fun _ _ _ h => h) (by kernel_rfl) (Or.inl ⟨by rfl, ?_⟩) hS ?_
      rotate_left
      · intro wz hwz
        try dsimp only at hwz
        go_simp
        try with_reducible rfl
      simp only [zA, zB, zC, Act.put, zD, zE, zF]
      refine HT.one (i := 9) (o := _) rfl (by kernel_rfl) (by decide) (by rfl) ?_
      intro K hK
      go_simp
      refine (ECOMPARE_any c d (.slice A1 n1 c1) (.slice A2 n2 c2) Y).mono ?_
      rintro e w8 ⟨rfl, hb8⟩
      have HO8 := Lib.hid (HOY.out.below hb8)
      have HA8 : Hid (Alt g (g + 1) w0 w8) := HAY.out.trans (Alt.of_below hb8)
      clear hb8
      have hS8 := And.intro (row_cells (I := m) (by omega) HX.out HO8.out).1 (row_cells (I := h) (by omega) HY.out HO8.out).1
      refine hK.out _ _ hS8 ?_
      clear hK K hS HOY HAY
      obtain ⟨q, hq⟩ : ∃ q, cmpC c d = q := ⟨_, rfl⟩
      rw [hq]
      clear hq
      try simp only [zA, zB, zC, Act.put, zD, zE, zF]
      have hS := hS8
      clear hS8
      by_cases hq0 : q < 0
      ·
        have hqd : decide (q < 0) = true := decide_eq_true hq0
        refine HT.take (i := 10) (oi := _) (v := ?_) rfl (by kernel_rfl) (by kernel_rfl) (by decide) (fun _ _ _ h => h) (Or.inl ⟨by rfl, ?_⟩) hS ?_
        rotate_left
        · intro wz
          go_simp
          try with_reducible rfl
        simp only [zA, zB, zC, Act.put, zD, zE, zF]
        refine HT.take (i := 11) (oi := _) (v := ?_) rfl (by kernel_rfl) (by kernel_rfl) (by decide) (fun _ _ _ h => h) (Or.inl ⟨by rfl, ?_⟩) hS ?_
        rotate_left
        · intro wz
          go_simp
          try with_reducible rfl
        simp only [zA, zB, zC, Act.put, zD, zE, zF]
        refine HT.done (by kernel_rfl) ?_
        clear hS
        simp only [List.drop_succ_cons, List.drop_zero]
        clear hqd
        have HS8 : Hid (SortC base g n cap cs0 w0 w8) := ⟨cs, hp.out, HO8.out, HA8.out⟩
        go_wp2_with fail
        go_roundg (h - i)
        case measure => omega
        case rel => exact ⟨i, h, rfl, rfl, by omega, by omega, by omega, by omega, HS8⟩
      ·
        have hqd : decide (q < 0) = false := decide_eq_false hq0
        refine HT.take (i := 10) (oi := _) (v := ?_) rfl (by kernel_rfl) (by kernel_rfl) (by decide) (fun _ _ _ h => h) (Or.inl ⟨by rfl, ?_⟩) hS ?_
        rotate_left
        · intro wz
          go_simp
          try with_reducible rfl
        simp only [zA, zB, zC, Act.put, zD, zE, zF]
        refine HT.take (i := 11) (oi := _) (v := ?_) rfl (by kernel_rfl) (by kernel_rfl) (by decide) (fun _ _ _ h => h) (Or.inl ⟨by rfl, ?_⟩) hS ?_
        rotate_left
        · intro wz
          go_simp
          try with_reducible rfl
        simp only [zA, zB, zC, Act.put, zD, zE, zF]
        refine HT.done (by kernel_rfl) ?_
        clear hS
        simp only [List.drop_succ_cons, List.drop_zero]
        clear hqd
        have HS8 : Hid (SortC base g n cap cs0 w0 w8) := ⟨cs, hp.out, HO8.out, HA8.out⟩
        go_wp2_with fail
        go_roundg (j - (h + 1))
        case measure => omega
        case rel => exact ⟨h + 1, j, by go_num, rfl, by omega, by omega, by omega, by omega, HS8⟩
    · obtain rfl : i = j := by omega
      go_wp2_with fail
      go_loopg [17] m (fun gh v13 wr => ∃ k : Nat, v13 = .int .i64 k ∧ i ≤ k ∧ k ≤ m ∧ k ≤ gh ∧ Hid (SortC base g n cap cs0 w0 wr))
      case atStart => exact ⟨m, rfl, by omega, by omega, by omega, HS⟩
      case round =>
        obtain ⟨k, rfl, hk1, hk2, hkg, HS⟩ := hrel
        by_cases hki : i < k
        · obtain ⟨k, rfl⟩ : ∃ k', k = k' + 1 := ⟨k - 1, by omega⟩
          have hkI : (i : Int) < (k : Int) + 1 := by omega
          obtain ⟨cs, hp0, ho0, ha0⟩ := HS.out
          have hlen : cs.length = n := by rw [hp0.length_eq]; exact hlen0
          have hp := Lib.hid hp0
          have ho := Lib.hid ho0
          have ha := Lib.hid ha0
          clear hp0 ho0 ha0 HS
          have HKW : Hid (IntKind.i64.wrap (k : Int) = (k : Int)) := by show _ = _; exact IntWalk.i64_in _ (by omega)
          have h1 : (0 : Int) ≤ (k : Int) + 1 := by omega
          have h2 : (k : Int) + 1 < (n : Int) := by omega
          have h3 : (0 : Int) ≤ (k : Int) := by omega
          have h4 : (k : Int) < (n : Int) := by omega
          have h5 : ((k : Int) + 1).toNat = k + 1 := by omega
          go_upto_region 23 with (fail)
          obtain ⟨⟨c, A1, n1, c1⟩, hx⟩ : ∃ p, cvOf cs (k + 1) = p := ⟨_, rfl⟩
          obtain ⟨⟨d, A2, n2, c2⟩, hy⟩ : ∃ p, cvOf cs (k) = p := ⟨_, rfl⟩
          refine wp_region_text 14 (fun x9 => (x9.cell? ⟨g, (k + 1) * 7, none⟩ = some (.string c.media) ∧ x9.cell? ⟨g, (k + 1) * 7 + 1, none⟩ = some (.int .i64 c.chan) ∧ x9.cell? ⟨g, (k + 1) * 7 + 2, none⟩ = some (.int .i64 c.from_) ∧ x9.cell? ⟨g, (k + 1) * 7 + 3, none⟩ = some (.int .i64 c.track) ∧ x9.cell? ⟨g, (k + 1) * 7 + 4, none⟩ = some (.int .i64 c.at_) ∧ x9.cell? ⟨g, (k + 1) * 7 + 5, none⟩ = some (.int .i64 c.len) ∧ x9.cell? ⟨g, (k + 1) * 7 + 6, none⟩ = some (.slice A1 n1 c1)) ∧ x9.cell? ⟨g, (k) * 7, none⟩ = some (.string d.media) ∧ x9.cell? ⟨g, (k) * 7 + 1, none⟩ = some (.int .i64 d.chan) ∧ x9.cell? ⟨g, (k) * 7 + 2, none⟩ = some (.int .i64 d.from_) ∧ x9.cell? ⟨g, (k) * 7 + 3, none⟩ = some (.int .i64 d.track) ∧ x9.cell? ⟨g, (k) * 7 + 4, none⟩ = some (.int .i64 d.at_) ∧ x9.cell? ⟨g, (k) * 7 + 5, none⟩ = some (.int .i64 d.len) ∧ x9.cell? ⟨g, (k) * 7 + 6, none⟩ = some (.slice A2 n2 c2)) (by kernel_rfl) (by kernel_rfl) ?_
          obtain ⟨Y, hY⟩ : ∃ Y, Y = wr.drew := ⟨_, rfl⟩
          have HOY : Hid (OwnK 7 58 Y base (.slice (some ⟨g, 0, none⟩) n cap) (cvLs cs)) := by show OwnK _ _ _ _ _ _; rw [hY]; exact ho.out.below (Below.refl _ _).drew
          have HAY : Hid (Alt g (g + 1) w0 Y) := by show Alt _ _ _ _; rw [hY]; exact ha.out.trans (Alt.of_below (Below.refl _ _).drew)
          rw [← hY]
          clear hY
          have HRF1 := Lib.hid (row_cells (I := k + 1) (by omega) hx HOY.out)
          have HRF2 := Lib.hid (row_cells (I := k) (by omega) hy HOY.out)
          have HX := Lib.hid hx
          have HY := Lib.hid hy
          clear hx hy
          have hS := And.intro HRF1.out.1 HRF2.out.1
          refine HT.take (i := 0) (oi := _) (v := ?_) rfl (by kernel_rfl) (by kernel_rfl) (by decide) (fun _ _ _ h => h) (Or.inl ⟨by rfl, ?_⟩) hS ?_
          rotate_left
          · intro wz
            go_simp
            try with_reducible rfl
          simp only [zA, zB, zC, Act.put, zD, zE, zF]
          refine HT.take (i := 1) (oi := _) (v := ?_) rfl (by kernel_rfl) (by kernel_rfl) (by decide) (fun _ _ _ h => h) (Or.inl ⟨by rfl, ?_⟩) hS ?_
          rotate_left
          · intro wz
            go_simp
            try with_reducible rfl
          simp only [zA, zB, zC, Act.put, zD, zE, zF]
          refine HT.take (i := 2) (oi := _) (v := ?_) rfl (by kernel_rfl) (by kernel_rfl) (by decide) (fun _ _ _ h => h) (Or.inl ⟨by rfl, ?_⟩) hS ?_
          rotate_left
          · intro wz
            go_simp
            try with_reducible rfl
          simp only [zA, zB, zC, Act.put, zD, zE, zF]
          refine HT.take (i := 3) (oi := _) (v := ?_) rfl (by kernel_rfl) (by kernel_rfl) (by decide) (fun _ _ _ h => h) (Or.inl ⟨by rfl, ?_⟩) hS ?_
          rotate_left
          · intro wz
            go_simp
            try with_reducible rfl
          simp only [zA, zB, zC, Act.put, zD, zE, zF]
          refine HT.take (i := 4) (oi := _) (v := ?_) rfl (by kernel_rfl) (by kernel_rfl) (by decide) (fun _ _ _ h => h) (Or.inl ⟨by rfl, ?_⟩) hS ?_
          rotate_left
          · intro wz
            go_simp
            try with_reducible rfl
          simp only [zA, zB, zC, Act.put, zD, zE, zF]
          rw [HKW.out]
          refine HT.take (i := 5) (oi := _) (v := ?_) rfl (by kernel_rfl) (by kernel_rfl) (by decide) (fun _ _ _ h => h) (Or.inl ⟨by rfl, ?_⟩) hS ?_
          rotate_left
          · intro wz
            go_simp
            try with_reducible rfl
          simp only [zA, zB, zC, Act.put, zD, zE, zF]
          refine HT.take (i := 6) (oi := _) (v := ?_) rfl (by kernel_rfl) (by kernel_rfl) (by decide) (fun _ _ _ h => h) (Or.inl ⟨by rfl, ?_⟩) hS ?_
          rotate_left
          · intro wz
            go_simp
            try with_reducible rfl
          simp only [zA, zB, zC, Act.put, zD, zE, zF]
          refine HT.take (i := 7) (oi := _) (v := ?_) rfl (by kernel_rfl) (by kernel_rfl) (by decide) (fun _ _ _ h => h) (Or.inl ⟨by rfl, ?_⟩) hS ?_
          rotate_left
          · intro wz
            go_simp
            try with_reducible rfl
          simp only [zA, zB, zC, Act.put, zD, zE, zF]
          rw [HKW.out]
          refine HT.take (i := 8) (oi := _) (v := ?_) rfl (by kernel_rfl) (by kernel_rfl) (by decide) (fun _ _ _ h => h) (Or.inl ⟨by rfl, ?_⟩) hS ?_
          rotate_left
          · intro wz
            go_simp
            try with_reducible rfl
          simp only [zA, zB, zC, Act.put, zD, zE, zF]
          refine HT.load (i := 9) (oi := _) (v := ?_) rfl (by kernel_rfl) (by kernel_rfl) (by decide) (fun _ _ _ h => h) (by kernel_rfl) (Or.inl ⟨by rfl, ?_⟩) hS ?_
          rotate_left
          · intro wz hwz
            try dsimp only at hwz
            go_simp
            try with_reducible rfl
          simp only [zA, zB, zC, Act.put, zD, zE, zF]
          refine HT.take (i := 10) (oi := _) (v := ?_) rfl (by kernel_rfl) (by kernel_rfl) (by decide) (fun _ _ _ h => h) (Or.inl ⟨by rfl, ?_⟩) hS ?_
          rotate_left
          · intro wz
            go_simp
            try with_reducible rfl
          simp only [zA, zB, zC, Act.put, zD, zE, zF]
          refine HT.take (i := 11) (oi := _) (v := ?_) rfl (by kernel_rfl) (by kernel_rfl) (by decide) (fun _ _ _ h => h) (Or.inl ⟨by rfl, ?_⟩) hS ?_
          rotate_left
          · intro wz
            go_simp
            try with_reducible rfl
          simp only [zA, zB, zC, Act.put, zD, zE, zF]
          refine HT.take (i := 12) (oi := _) (v := ?_) rfl (by kernel_rfl) (by kernel_rfl) (by decide) (fun _ _ _ h => h) (Or.inl ⟨by rfl, ?_⟩) hS ?_
          rotate_left
          · intro wz
            go_simp
            try with_reducible rfl
          simp only [zA, zB, zC, Act.put, zD, zE, zF]
          refine HT.load (i := 13) (oi := _) (v := ?_) rfl (by kernel_rfl) (by kernel_rfl) (by decide) (fun _ _ _ h => h) (by kernel_rfl) (Or.inl ⟨by rfl, ?_⟩) hS ?_
          rotate_left
          · intro wz hwz
            try dsimp only at hwz
            go_simp
            try with_reducible rfl
          simp only [zA, zB, zC, Act.put, zD, zE, zF]
          refine HT.done (by kernel_rfl) ?_
          clear hS
          simp only [List.drop_succ_cons, List.drop_zero]
          obtain ⟨⟨a0, a1, a2, a3, a4, a5, a6⟩, f0, f1, f2, f3, f4, f5, f6⟩ := HRF1.out
          obtain ⟨⟨b0, b1, b2, b3, b4, b5, b6⟩, k0, k1, k2, k3, k4, k5, k6⟩ := HRF2.out
          have e0 : ¬ (k) * 7 = (k + 1) * 7 := by omega
          have e0s : ¬ (k + 1) * 7 = (k) * 7 := by omega
          have e1 : ¬ (k) * 7 + 1 = (k + 1) * 7 := by omega
          have e1s : ¬ (k + 1) * 7 = (k) * 7 + 1 := by omega
          have m1 : ¬ (k) * 7 = (k + 1) * 7 + 1 := by omega
          have m1s : ¬ (k + 1) * 7 + 1 = (k) * 7 := by omega
          have e2 : ¬ (k) * 7 + 2 = (k + 1) * 7 := by omega
          have e2s : ¬ (k + 1) * 7 = (k) * 7 + 2 := by omega
          have m2 : ¬ (k) * 7 = (k + 1) * 7 + 2 := by omega
          have m2s : ¬ (k + 1) * 7 + 2 = (k) * 7 := by omega
          have e3 : ¬ (k) * 7 + 3 = (k + 1) * 7 := by omega
          have e3s : ¬ (k + 1) * 7 = (k) * 7 + 3 := by omega
          have m3 : ¬ (k) * 7 = (k + 1) * 7 + 3 := by omega
          have m3s : ¬ (k + 1) * 7 + 3 = (k) * 7 := by omega
          have e4 : ¬ (k) * 7 + 4 = (k + 1) * 7 := by omega
          have e4s : ¬ (k + 1) * 7 = (k) * 7 + 4 := by omega
          have m4 : ¬ (k) * 7 = (k + 1) * 7 + 4 := by omega
          have m4s : ¬ (k + 1) * 7 + 4 = (k) * 7 := by omega
          have e5 : ¬ (k) * 7 + 5 = (k + 1) * 7 := by omega
          have e5s : ¬ (k + 1) * 7 = (k) * 7 + 5 := by omega
          have m5 : ¬ (k) * 7 = (k + 1) * 7 + 5 := by omega
          have m5s : ¬ (k + 1) * 7 + 5 = (k) * 7 := by omega
          have e6 : ¬ (k) * 7 + 6 = (k + 1) * 7 := by omega
          have e6s : ¬ (k + 1) * 7 = (k) * 7 + 6 := by omega
          have m6 : ¬ (k) * 7 = (k + 1) * 7 + 6 := by omega
          have m6s : ¬ (k + 1) * 7 + 6 = (k) * 7 := by omega
          go_wp2_with fail
          obtain ⟨V, hV, HSV⟩ := exch7 (I := k + 1) (J := k) (by omega) (by omega) HX.out HY.out HOY.out HAY.out hp.out
          rw [← hV]
          clear hV a0 a1 a2 a3 a4 a5 a6 b0 b1 b2 b3 b4 b5 b6 f0 f1 f2 f3 f4 f5 f6 k0 k1 k2 k3 k4 k5 k6 HX HY HRF1 HRF2 e0 e0s e1 e1s m1 m1s e2 e2s m2 m2s e3 e3s m3 m3s e4 e4s m4 m4s e5 e5s m5 m5s e6 e6s m6 m6s
          go_roundg k
          case measure => omega
          case rel => exact ⟨k, by go_num, by omega, by omega, by omega, HSV⟩
        · have hkI : ¬ (i : Int) < (k : Int) := by omega
          go_wp2_with fail
          refine bodyPost_ret (v := .tuple #[]) (by simp [results, Tryz.results146, go_sem]) rfl ?_
          exact ⟨rfl, HS.out⟩
end Go.Proofs.YtkmcohnhanphdaaGreatDoor
