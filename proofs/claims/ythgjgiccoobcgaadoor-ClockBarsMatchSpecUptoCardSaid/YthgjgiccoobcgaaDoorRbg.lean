/- The document's begin. -/
import Derived.Test.YthgjgiccoobcgaaDoorTof
import Derived.Deep.QuietTactic
set_option linter.unusedSimpArgs false
set_option linter.unusedVariables false
namespace Go.Proofs.YthgjgiccoobcgaaDoor
open Go.RowKit Go.Dw Go.Joins
set_option maxRecDepth 100000 in
set_option maxHeartbeats 4000000 in
theorem RBEGIN_any (A A' : Option Addr) (n c n' c' : Nat) (ms : List Pr) (HM : Hid (MetOk ms)) (j : Nat) (w : World) (B : Nat) (hB : B ≤ w.heap.size) (hj : j < n') (hh' : Hid (PrsAt w B A' n' ms)) :
    Calls Tryd.prog 24 #[.agg #[.slice A n c, .slice A' n' c'], .int .i64 j] w fun e w' => e = .returned (.int .i64 (begZ ms j)) ∧ Below w.heap.size w w' := by
  have hl' := Lib.hid hh'.out.1
  have hfew : n' ≤ 200 := by rw [← hl'.out]; exact HM.out.few
  obtain ⟨W, gx, hW, hgx, HHW, HBW, HSW⟩ := cell_new0 w 25 #[.slice A n c, .slice A' n' c']
  obtain ⟨b0, b1, _, _⟩ := pr_cells HHW.out
  have hhW' : Hid (PrsAt W B A' n' ms) := hh'.out.below HBW.out hB
  have hBW : B ≤ W.heap.size := by have := HBW.out.size; omega
  have hgw := blk_lt HHW.out
  have HC1 := Lib.hid b1
  go_enter Tryd.func24, Tryd.ntmps24
  go_upto_region 1 with (fail)
  rw [← hW, ← hgx]
  clear hW hgx b0 b1 HHW HSW
  go_wp2_with fail
  go_loopw [5, 6] (fun v i wr => ∃ k : Nat, k ≤ j ∧ i = .int .i64 k ∧ v = .int .i64 (begZ ms k) ∧ Hid (Below W.heap.size W wr)) (fun _ i _ => j - (intOf i).toNat)
  case atStart => exact ⟨0, Nat.zero_le _, rfl, rfl, Below.refl _ _⟩
  case round =>
    obtain ⟨k, hk, rfl, rfl, hb⟩ := hrel
    have hsr := hb.out.size
    by_cases hlt : k < j
    · have hc1 := (hb.out.cell (p := ⟨gx, 1, none⟩) hgw).trans HC1.out
      obtain ⟨bA, oA, rfl, hbA, k1, k2⟩ := (hhW'.out.below hb.out hBW).2 k (by omega)
      obtain ⟨b9, o9, e9, _, q1, _⟩ := (hhW'.out.below hb.out hBW).2 (k + 1) (by omega)
      injection e9 with e9
      injection e9 with e8 e7 _
      subst e8 e7
      have hkl : k + 1 < ms.length := by rw [hl'.out]; omega
      obtain ⟨⟨r1, r2⟩, r3, r4⟩ := HM.out.rng k (by omega)
      obtain ⟨⟨g1, g2⟩, _⟩ := HM.out.rng (k + 1) hkl
      have hin := HM.out.inc k hkl
      have hp1 := beg_nonneg HM.out (k := k) (by omega)
      have hp2 := beg_le HM.out (k := k) (by omega)
      have hst : Hid (begZ ms (k + 1) = begZ ms k + ((prOf ms (k + 1)).1 - (prOf ms k).1) * (prOf ms k).2 * 960) := by show _ = _; rfl
      obtain ⟨p, hp⟩ : ∃ p, prOf ms k = p := ⟨_, rfl⟩
      obtain ⟨a, m⟩ := p
      obtain ⟨q, hq⟩ : ∃ q, (prOf ms (k + 1)).1 = q := ⟨_, rfl⟩
      rw [hp] at k1 k2 r1 r2 r3 r4 hp2 hst hin
      rw [hq] at q1 g1 g2 hst hin
      dsimp only at k1 k2 r1 r2 r3 r4 hp2 hst hin
      obtain ⟨hm1, hm2⟩ := mul_bd (a := q - a) (c := 1000000000) (by omega) (by omega) (by omega : 0 ≤ m) r4
      obtain ⟨S, hS⟩ : ∃ S, begZ ms k = S := ⟨_, rfl⟩
      rw [hS] at hst hp1 hp2 ⊢
      obtain ⟨Z, hZ⟩ : ∃ Z, (q - a) * m = Z := ⟨_, rfl⟩
      rw [hZ] at hst hm1 hm2
      have q1' : wr.cell? ⟨bA, oA + (k + 1) * 2, none⟩ = some (.int .i64 q) := q1
      have hk0 : (0 : Int) ≤ (k : Int) := by omega
      have hkj : (k : Int) < (j : Int) := by omega
      have hkn : (k : Int) < (n' : Int) := by omega
      have hkI : (k : Int) + 1 < (n' : Int) := by omega
      have kw1 : IntKind.i64.wrap ((k : Int) + 1) = (k : Int) + 1 := IntWalk.i64_in _ (by omega)
      have kw2 : (0 : Int) ≤ (k : Int) + 1 := by omega
      have kw3 : ((k : Int) + 1).toNat = k + 1 := by omega
      have kw4 : IntKind.i64.wrap (q - a) = q - a := IntWalk.i64_in _ (by omega)
      have kw5 : IntKind.i64.wrap ((q - a) * m) = Z := by rw [hZ]; exact IntWalk.i64_in _ (by omega)
      have kw6 : IntKind.i64.wrap (Z * 960) = Z * 960 := IntWalk.i64_in _ (by omega)
      have kw7 : IntKind.i64.wrap (S + Z * 960) = S + Z * 960 := IntWalk.i64_in _ (by omega)
      clear hp hq hS hZ q1
      go_upto_region 5 with (fail)
      go_quiet (fail)
      clear kw1 kw2 kw3 kw4 kw5 kw6 kw7
      have HB2 := Lib.hid (belowN hb.out nq)
      go_wp2_with fail
      go_roundw
      case rel => exact ⟨k + 1, by omega, by go_num, by rw [hst.out], HB2⟩
      case measure => simp [intOf]; omega
    · obtain rfl : k = j := by omega
      go_wp2_with fail
      go_ret
      exact ⟨rfl, HBW.out.trans (hb.out.mono HBW.out.size)⟩
end Go.Proofs.YthgjgiccoobcgaaDoor
