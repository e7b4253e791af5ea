/- chunkAt. -/
import Derived.Test.YtlnjildkdmeflaaDoorSpecQ
import Derived.Test.YtlnjildkdmeflaaDoorRegion2
import Derived.Test.YtlnjildkdmeflaaDoorWb
import Derived.RegionTactic
import Derived.BigRegion
import Derived.Deep.Cut
set_option linter.unusedSimpArgs false
set_option linter.unusedVariables false
namespace Go.Proofs.YtlnjildkdmeflaaDoor
open Go.RowKit Go.Dw
theorem run_cut_at {A : Option Addr} {n c at_ p q : Nat} {x y : Int} (hx : x = ((at_ + p : Nat) : Int)) (hy : y = ((at_ + p + q : Nat) : Int)) (h : at_ + p + q ≤ c) (W : World) :
    (Instr.slice 26 (.slice A n c) (some (.int .i64 x)) (some (.int .i64 y)) none).run Tryd.prog W = .ok (.slice (cutA A c (at_ + p)) q (c - (at_ + p))) W := by
  subst hx hy
  have := run_cut_by A n c (at_ + p) (at_ + p + q) (by omega) (by omega) W
  rw [show at_ + p + q - (at_ + p) = q by omega] at this
  exact this
theorem load_ck (w : World) (g : Nat) (v0 v1 : Value) (h0 : w.cell? ⟨g, 0, none⟩ = some v0) (h1 : w.cell? ⟨g, 1, none⟩ = some v1) :
    (loadVar 42 ⟨g, 0, none⟩).run Tryd.prog w = .ok (.agg #[v0, v1]) w := by
  simp [loadVar, go_sem, h0, h1]
theorem res_ck3 {fn : Func} {p u x : Tmp} (h : fn.results = #[.cell p 42, .tmp u, .tmp x]) {tmps : Array Value} {w : World} {g : Nat} {v0 v1 : Value} (hp : tmps.getD p undef = .pointer (some ⟨g, 0, none⟩))
    (h0 : w.cell? ⟨g, 0, none⟩ = some v0) (h1 : w.cell? ⟨g, 1, none⟩ = some v1) : (results fn tmps).run Tryd.prog w = .ok (.tuple #[.agg #[v0, v1], tmps.getD u undef, tmps.getD x undef]) w := by
  have hp' : tmps[p]?.getD undef = .pointer (some ⟨g, 0, none⟩) := by simpa using hp
  simp [results, h, hp', asAddr, load_ck w g v0 v1 h0 h1]
theorem end_ck3 {fn : Func} {R : Ending → World → Prop} {a : Act} {w : World} {p u x : Tmp} {g : Nat} {v0 v1 o0 o1 : Value} (h : fn.results = #[.cell p 42, .tmp u, .tmp x]) (hp : a.tmps.getD p undef = .pointer (some ⟨g, 0, none⟩)) (hd : a.defers = []) (c0 : w.cell? ⟨g, 0, none⟩ = some o0) (c1 : w.cell? ⟨g, 1, none⟩ = some o1)
    (hR : R (.returned (.tuple #[.agg #[v0, v1], a.tmps.getD u undef, a.tmps.getD x undef])) ((w.setCell ⟨g, 0, none⟩ v0).setCell ⟨g, 1, none⟩ v1)) : bodyPost Tryd.prog fn R .ret a ((w.setCell ⟨g, 0, none⟩ v0).setCell ⟨g, 1, none⟩ v1) :=
  bodyPost_ret (res_ck3 h hp (two_set w g o0 o1 v0 v1 c0 c1).1 (two_set w g o0 o1 v0 v1 c0 c1).2) hd hR
theorem chunkS_none {b : By} {at_ : Nat} (h : b.length - at_ < 8 ∨ nameB (cutB b at_ (at_ + 4)) = false ∨ b.length < nextN at_ (lenN b at_) ∨ (lenN b at_ % 2 = 1 ∧ byOf b (nextN at_ (lenN b at_) - 1) ≠ 0)) : chunkS b at_ = none := by
  unfold chunkS
  by_cases h1 : b.length - at_ < 8 ∨ nameB (cutB b at_ (at_ + 4)) = false
  · rw [if_pos h1]
  · rw [if_neg h1, if_pos (by rcases h with h | h | h | h; exact absurd (.inl h) h1; exact absurd (.inr h) h1; exact .inl h; exact .inr h)]
set_option maxRecDepth 100000 in
set_option maxHeartbeats 4000000 in
theorem CHUNKAT_short (A : Option Addr) (n c at_ : Nat) (hn : n ≤ 8000000) (hat : at_ ≤ n) (h8 : n - at_ < 8) (w : World) :
    Calls Tryd.prog 40 #[.slice A n c, .int .i64 at_] w fun e w' => e = .returned (.tuple #[.agg #[.string ⟨#[]⟩, .slice none 0 0], .int .i64 0, .bool false]) ∧ Below w.heap.size w w' := by
  have d1 : decide ((n : Int) - (at_ : Int) < 8) = true := by simp; omega
  go_enter Tryd.func40, Tryd.ntmps40
  go_wp2_with fail
  exact bodyPost_ret (v := .tuple #[.agg #[.string ⟨#[]⟩, .slice none 0 0], .int .i64 0, .bool false]) (by simp [results, Tryd.results40, go_sem]) rfl ⟨rfl, (Below.refl _ w).alloc (Nat.le_refl _) _⟩
set_option maxRecDepth 100000 in
set_option maxHeartbeats 4000000 in
theorem CHUNKAT_name (A : Option Addr) (n c at_ : Nat) (b : By) (hn : n ≤ 8000000) (hat : at_ + 8 ≤ n) (hc9 : n ≤ c ∧ c ≤ maxLen) (hnb : Hid (nameB (cutB b at_ (at_ + 4)) = false)) (w : World) (B : Nat) (hB : B ≤ w.heap.size) (hh : Hid (BysAt w B A n b)) :
    Calls Tryd.prog 40 #[.slice A n c, .int .i64 at_] w fun e w' => e = .returned (.tuple #[.agg #[.string ⟨#[]⟩, .slice none 0 0], .int .i64 0, .bool false]) ∧ Below w.heap.size w w' := by
  have d1 : decide ((n : Int) - (at_ : Int) < 8) = false := by simp; omega
  have hlen := Lib.hid hh.out.1
  have HNM : Hid (BysAt w B (cutA A c at_) 4 (cutB b at_ (at_ + 4))) := by
    have := hh.out.cut hc9.1 (p := at_) (q := at_ + 4) (by omega) (by omega)
    rw [show at_ + 4 - at_ = 4 by omega] at this
    exact this
  obtain ⟨s, hs⟩ : ∃ s, ByteArray.mk (cutB b at_ (at_ + 4)).toArray = s := ⟨_, rfl⟩
  have HS := Lib.hid hs
  obtain ⟨hnc, hcm⟩ := hc9
  unfold maxLen at hcm
  go_enter Tryd.func40, Tryd.ntmps40
  go_upto_region 1 with (fail)
  obtain ⟨X, hX⟩ : ∃ X, X = w.alloc (.cells #[.string ⟨#[]⟩, .slice none 0 0] 42) := ⟨_, rfl⟩
  have hXb : Below w.heap.size w X := by rw [hX]; exact (Below.refl _ w).alloc (Nat.le_refl _) _
  have hX0 : X.cell? ⟨w.heap.size, 0, none⟩ = some (.string ⟨#[]⟩) := by rw [hX]; simp [go_sem]
  have hX1 : X.cell? ⟨w.heap.size, 1, none⟩ = some (.slice none 0 0) := by rw [hX]; simp [go_sem]
  have hXs : X.heap.size = w.heap.size + 1 := by rw [hX]; simp
  have hXf0 : X.frozen? ⟨w.heap.size, 0, none⟩ = false := by rw [hX]; simp [go_sem]
  have hXf1 : X.frozen? ⟨w.heap.size, 1, none⟩ = false := by rw [hX]; simp [go_sem]
  have HXB := Lib.hid hXb
  rw [← hX]
  obtain ⟨gx, hgx⟩ : ∃ gx, gx = w.heap.size := ⟨_, rfl⟩
  rw [← hgx] at hX0 hX1 hXs hXf0 hXf1 ⊢
  have hlt : gx < X.heap.size := by omega
  have HGX := Lib.hid hgx
  have hcv : (convert 26 9 (.slice (cutA A c at_) 4 (c - at_))).run Tryd.prog X = .ok (.string s) X := by
    have := run_str_of (c := c - at_) (HNM.out.below (hXb.mono hB) (Nat.le_refl _))
    unfold strOf at this
    rw [hs] at this
    exact this
  have hsl : ∀ W, (Instr.slice 26 (.slice A n c) (some (.int .i64 (at_ : Int))) (some (.int .i64 ((at_ : Int) + 4))) none).run Tryd.prog W = .ok (.slice (cutA A c at_) 4 (c - at_)) W :=
    fun W => run_cut_at (p := 0) (q := 4) (by omega) (by omega) (by omega) W
  clear hX hgx hXb hs hXs
  go_wp2_with fail
  refine (CHUNKNAME_str _ s HS _).mono ?_
  rintro e w1 ⟨rfl, rfl⟩
  rw [hnb.out]
  clear hcv hsl
  go_wp2_with fail
  exact end_ck3 rfl rfl rfl hX0 hX1 ⟨rfl, set2_below HXB.out (by rw [HGX.out]; exact Nat.le_refl _)⟩
set_option maxRecDepth 100000 in
set_option maxHeartbeats 4000000 in
theorem CHUNKAT_long (A : Option Addr) (n c at_ : Nat) (b : By) (hn : n ≤ 8000000) (hat : at_ + 8 ≤ n) (hc9 : n ≤ c ∧ c ≤ maxLen) (hnb : Hid (nameB (cutB b at_ (at_ + 4)) = true)) (hnx : n < at_ + 8 + lenN b at_ + lenN b at_ % 2) (w : World) (B : Nat) (hB : B ≤ w.heap.size) (hh : Hid (BysAt w B A n b)) :
    Calls Tryd.prog 40 #[.slice A n c, .int .i64 at_] w fun e w' => e = .returned (.tuple #[.agg #[.string ⟨#[]⟩, .slice none 0 0], .int .i64 0, .bool false]) ∧ Below w.heap.size w w' := by
  have d1 : decide ((n : Int) - (at_ : Int) < 8) = false := by simp; omega
  have hlen := Lib.hid hh.out.1
  have HNM : Hid (BysAt w B (cutA A c at_) 4 (cutB b at_ (at_ + 4))) := by
    have := hh.out.cut hc9.1 (p := at_) (q := at_ + 4) (by omega) (by omega)
    rw [show at_ + 4 - at_ = 4 by omega] at this
    exact this
  obtain ⟨s, hs⟩ : ∃ s, ByteArray.mk (cutB b at_ (at_ + 4)).toArray = s := ⟨_, rfl⟩
  have HS := Lib.hid hs
  obtain ⟨hnc, hcm⟩ := hc9
  unfold maxLen at hcm
  go_enter Tryd.func40, Tryd.ntmps40
  go_upto_region 1 with (fail)
  obtain ⟨X, hX⟩ : ∃ X, X = w.alloc (.cells #[.string ⟨#[]⟩, .slice none 0 0] 42) := ⟨_, rfl⟩
  have hXb : Below w.heap.size w X := by rw [hX]; exact (Below.refl _ w).alloc (Nat.le_refl _) _
  have hX0 : X.cell? ⟨w.heap.size, 0, none⟩ = some (.string ⟨#[]⟩) := by rw [hX]; simp [go_sem]
  have hX1 : X.cell? ⟨w.heap.size, 1, none⟩ = some (.slice none 0 0) := by rw [hX]; simp [go_sem]
  have hXs : X.heap.size = w.heap.size + 1 := by rw [hX]; simp
  have hXf0 : X.frozen? ⟨w.heap.size, 0, none⟩ = false := by rw [hX]; simp [go_sem]
  have hXf1 : X.frozen? ⟨w.heap.size, 1, none⟩ = false := by rw [hX]; simp [go_sem]
  have HXB := Lib.hid hXb
  rw [← hX]
  obtain ⟨gx, hgx⟩ : ∃ gx, gx = w.heap.size := ⟨_, rfl⟩
  rw [← hgx] at hX0 hX1 hXs hXf0 hXf1 ⊢
  have hlt : gx < X.heap.size := by omega
  have HGX := Lib.hid hgx
  have hcv : (convert 26 9 (.slice (cutA A c at_) 4 (c - at_))).run Tryd.prog X = .ok (.string s) X := by
    have := run_str_of (c := c - at_) (HNM.out.below (hXb.mono hB) (Nat.le_refl _))
    unfold strOf at this
    rw [hs] at this
    exact this
  have hsl : ∀ W, (Instr.slice 26 (.slice A n c) (some (.int .i64 (at_ : Int))) (some (.int .i64 ((at_ : Int) + 4))) none).run Tryd.prog W = .ok (.slice (cutA A c at_) 4 (c - at_)) W :=
    fun W => run_cut_at (p := 0) (q := 4) (by omega) (by omega) (by omega) W
  clear hX hgx hXb hs hXs
  go_wp2_with fail
  refine (CHUNKNAME_str _ s HS _).mono ?_
  rintro e w1 ⟨rfl, rfl⟩
  have hm32 := lenN_lt (b := b) (at_ := at_) (by rw [hlen.out]; omega)
  have HLN : Hid (BysAt X B (cutA A c (at_ + 4)) 4 (cutB b (at_ + 4) (at_ + 8))) := by
    have := (hh.out.below (HXB.out.mono hB) (Nat.le_refl _)).cut hnc (p := at_ + 4) (q := at_ + 8) (by omega) (by omega)
    rw [show at_ + 8 - (at_ + 4) = 4 by omega] at this
    exact this
  have hsl2 : ∀ W, (Instr.slice 26 (.slice A n c) (some (.int .i64 ((at_ : Int) + 4))) (some (.int .i64 ((at_ : Int) + 8))) none).run Tryd.prog W = .ok (.slice (cutA A c (at_ + 4)) 4 (c - (at_ + 4))) W :=
    fun W => run_cut_at (p := 4) (q := 4) (by omega) (by omega) (by omega) W
  rw [hnb.out]
  clear hcv hsl
  go_wp2_with fail
  refine (GET_any _ 4 _ _ (by omega) _ B (by rw [HGX.out] at hlt; omega) HLN).mono ?_
  rintro e w1 ⟨rfl, rfl⟩
  rw [show numB (cutB b (at_ + 4) (at_ + 8)) = lenN b at_ from rfl]
  obtain ⟨m, hm⟩ : ∃ m, lenN b at_ = m := ⟨_, rfl⟩
  have HLM := Lib.hid hm
  rw [hm] at hm32 hnx ⊢
  clear hsl2 hm HLN
  have d2 : decide ((n : Int) < (at_ : Int) + 8 + (m : Int) + (m : Int) % 2) = true := by simp; omega
  clear hnx
  go_wp2_with fail
  exact end_ck3 rfl rfl rfl hX0 hX1 ⟨rfl, set2_below HXB.out (by rw [HGX.out]; exact Nat.le_refl _)⟩
set_option maxRecDepth 100000 in
set_option maxHeartbeats 4000000 in
theorem CHUNKAT_pad (A : Option Addr) (n c at_ : Nat) (b : By) (hn : n ≤ 8000000) (hat : at_ + 8 ≤ n) (hc9 : n ≤ c ∧ c ≤ maxLen) (hnb : Hid (nameB (cutB b at_ (at_ + 4)) = true)) (hnx : at_ + 8 + lenN b at_ + lenN b at_ % 2 ≤ n ∧ lenN b at_ % 2 = 1 ∧ byOf b (at_ + 8 + lenN b at_ + lenN b at_ % 2 - 1) ≠ 0) (w : World) (B : Nat) (hB : B ≤ w.heap.size) (hh : Hid (BysAt w B A n b)) :
    Calls Tryd.prog 40 #[.slice A n c, .int .i64 at_] w fun e w' => e = .returned (.tuple #[.agg #[.string ⟨#[]⟩, .slice none 0 0], .int .i64 0, .bool false]) ∧ Below w.heap.size w w' := by
  have d1 : decide ((n : Int) - (at_ : Int) < 8) = false := by simp; omega
  have hlen := Lib.hid hh.out.1
  have HNM : Hid (BysAt w B (cutA A c at_) 4 (cutB b at_ (at_ + 4))) := by
    have := hh.out.cut hc9.1 (p := at_) (q := at_ + 4) (by omega) (by omega)
    rw [show at_ + 4 - at_ = 4 by omega] at this
    exact this
  obtain ⟨s, hs⟩ : ∃ s, ByteArray.mk (cutB b at_ (at_ + 4)).toArray = s := ⟨_, rfl⟩
  have HS := Lib.hid hs
  obtain ⟨hnc, hcm⟩ := hc9
  unfold maxLen at hcm
  go_enter Tryd.func40, Tryd.ntmps40
  go_upto_region 1 with (fail)
  obtain ⟨X, hX⟩ : ∃ X, X = w.alloc (.cells #[.string ⟨#[]⟩, .slice none 0 0] 42) := ⟨_, rfl⟩
  have hXb : Below w.heap.size w X := by rw [hX]; exact (Below.refl _ w).alloc (Nat.le_refl _) _
  have hX0 : X.cell? ⟨w.heap.size, 0, none⟩ = some (.string ⟨#[]⟩) := by rw [hX]; simp [go_sem]
  have hX1 : X.cell? ⟨w.heap.size, 1, none⟩ = some (.slice none 0 0) := by rw [hX]; simp [go_sem]
  have hXs : X.heap.size = w.heap.size + 1 := by rw [hX]; simp
  have hXf0 : X.frozen? ⟨w.heap.size, 0, none⟩ = false := by rw [hX]; simp [go_sem]
  have hXf1 : X.frozen? ⟨w.heap.size, 1, none⟩ = false := by rw [hX]; simp [go_sem]
  have HXB := Lib.hid hXb
  rw [← hX]
  obtain ⟨gx, hgx⟩ : ∃ gx, gx = w.heap.size := ⟨_, rfl⟩
  rw [← hgx] at hX0 hX1 hXs hXf0 hXf1 ⊢
  have hlt : gx < X.heap.size := by omega
  have HGX := Lib.hid hgx
  have hcv : (convert 26 9 (.slice (cutA A c at_) 4 (c - at_))).run Tryd.prog X = .ok (.string s) X := by
    have := run_str_of (c := c - at_) (HNM.out.below (hXb.mono hB) (Nat.le_refl _))
    unfold strOf at this
    rw [hs] at this
    exact this
  have hsl : ∀ W, (Instr.slice 26 (.slice A n c) (some (.int .i64 (at_ : Int))) (some (.int .i64 ((at_ : Int) + 4))) none).run Tryd.prog W = .ok (.slice (cutA A c at_) 4 (c - at_)) W :=
    fun W => run_cut_at (p := 0) (q := 4) (by omega) (by omega) (by omega) W
  clear hX hgx hXb hs hXs
  go_wp2_with fail
  refine (CHUNKNAME_str _ s HS _).mono ?_
  rintro e w1 ⟨rfl, rfl⟩
  have hm32 := lenN_lt (b := b) (at_ := at_) (by rw [hlen.out]; omega)
  have HLN : Hid (BysAt X B (cutA A c (at_ + 4)) 4 (cutB b (at_ + 4) (at_ + 8))) := by
    have := (hh.out.below (HXB.out.mono hB) (Nat.le_refl _)).cut hnc (p := at_ + 4) (q := at_ + 8) (by omega) (by omega)
    rw [show at_ + 8 - (at_ + 4) = 4 by omega] at this
    exact this
  have hsl2 : ∀ W, (Instr.slice 26 (.slice A n c) (some (.int .i64 ((at_ : Int) + 4))) (some (.int .i64 ((at_ : Int) + 8))) none).run Tryd.prog W = .ok (.slice (cutA A c (at_ + 4)) 4 (c - (at_ + 4))) W :=
    fun W => run_cut_at (p := 4) (q := 4) (by omega) (by omega) (by omega) W
  rw [hnb.out]
  clear hcv hsl
  go_wp2_with fail
  refine (GET_any _ 4 _ _ (by omega) _ B (by rw [HGX.out] at hlt; omega) HLN).mono ?_
  rintro e w1 ⟨rfl, rfl⟩
  rw [show numB (cutB b (at_ + 4) (at_ + 8)) = lenN b at_ from rfl]
  obtain ⟨m, hm⟩ : ∃ m, lenN b at_ = m := ⟨_, rfl⟩
  have HLM := Lib.hid hm
  rw [hm] at hm32 hnx ⊢
  clear hsl2 hm HLN
  obtain ⟨hx1, hx2, hx3⟩ := hnx
  obtain ⟨bA, oA, rfl, hbA, hcell⟩ := (hh.out.below (HXB.out.mono hB) (Nat.le_refl _)).2 (at_ + 8 + m + m % 2 - 1) (by omega)
  have d2 : decide ((n : Int) < (at_ : Int) + 8 + (m : Int) + (m : Int) % 2) = false := by simp; omega
  have d3 : decide ((0 : Int) < (m : Int) % 2) = true := by simp; omega
  obtain ⟨q, hq⟩ : ∃ q, at_ + 8 + m + m % 2 - 1 = q := ⟨_, rfl⟩
  rw [hq] at hcell hx3
  have hqI : (at_ : Int) + 8 + (m : Int) + (m : Int) % 2 - 1 = (q : Int) := by omega
  have hq0 : (0 : Int) ≤ (at_ : Int) + 8 + (m : Int) + (m : Int) % 2 - 1 := by omega
  have hqn : (at_ : Int) + 8 + (m : Int) + (m : Int) % 2 - 1 < (n : Int) := by omega
  unfold byV at hcell
  have hxn : (byOf b q).toNat ≠ 0 := fun e => hx3 (by rw [← UInt8.toNat_inj]; exact e)
  obtain ⟨x, hx⟩ : ∃ x, (byOf b q).toNat = x := ⟨_, rfl⟩
  rw [hx] at hcell hxn
  have d4 : ((x : Int) != 0) = true := by simp; omega
  clear hx hx3 hq hxn hx1 hx2
  go_wp2_with fail
  exact end_ck3 rfl rfl rfl hX0 hX1 ⟨rfl, set2_below HXB.out (by rw [HGX.out]; exact Nat.le_refl _)⟩
end Go.Proofs.YtlnjildkdmeflaaDoor
