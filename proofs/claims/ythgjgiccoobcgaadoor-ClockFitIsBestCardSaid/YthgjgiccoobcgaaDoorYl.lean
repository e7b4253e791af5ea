/- clock: Frac, isPos, IsRate, isWay, round, position, Convert. -/
import Derived.Test.YthgjgiccoobcgaaDoorYj
import Derived.Test.YthgjgiccoobcgaaDoorZb
set_option linter.unusedSimpArgs false
set_option linter.unusedVariables false
namespace Go.Proofs.YthgjgiccoobcgaaDoor
open Go.RowKit Go.Dw
theorem frac_pos (a b : Int) (hb : 0 < b) : mkRat a b.natAbs = (a : Rat) / b := by
  have h : ((b.natAbs : Nat) : Int) = b := by omega
  rw [Rat.mkRat_eq_div, ← Rat.intCast_natCast, h]
theorem frac_neg (a b : Int) (hb : b < 0) : mkRat (-a) b.natAbs = (a : Rat) / b := by
  have h : ((b.natAbs : Nat) : Int) = -b := by omega
  rw [Rat.mkRat_eq_div, ← Rat.intCast_natCast, h, ← Rat.divInt_eq_div, Rat.neg_divInt_neg, Rat.divInt_eq_div]
end Go.Proofs.YthgjgiccoobcgaaDoor

/- clock: round, position, Convert. -/
set_option linter.unusedSimpArgs false
set_option linter.unusedVariables false
namespace Go.Proofs.YthgjgiccoobcgaaDoor
open Go.RowKit Go.Dw
def roundQ (q : Rat) (way : Int) : Int := if way = 1 then q.floor else if way = 3 then q.ceil else nearQ q
def posI (z : Int) : Int × Int := if z.natAbs ≤ 10000000000000 then (z, 0) else (0, 1)
set_option maxRecDepth 100000 in
set_option maxHeartbeats 1000000 in
theorem POSITION_any (neg : Bool) (A : Option Addr) (n c : Nat) (z : Int) (w : World) (B : Nat) (hB : B ≤ w.heap.size) (hh : Hid (IntAt w B neg A n c z)) :
    Calls Tryd.prog 56 #[.agg #[.bool neg, .slice A n c]] w fun e w' => e = .returned (.tuple #[.int .i64 (posI z).1, .int .i64 (posI z).2]) ∧ Below w.heap.size w w' := by
  obtain ⟨W, gx, hW, hgx, HHW, HBW, HSW⟩ := cell_new w 69 #[.bool neg, .slice A n c]
  have hc0 := own_cell1 HHW.out 0
  have hc1 := own_cell1 HHW.out 1
  simp only [List.getElem?_toArray, List.getElem?_cons_zero, List.getElem?_cons_succ] at hc0 hc1
  have HNW : Hid (IntAt W W.heap.size neg A n c z) := hh.out.to HBW.out hB (by have := HSW.out; omega)
  have HSZ := Lib.hid HBW.out.size
  go_enter Tryd.func56, Tryd.ntmps56
  go_upto_region 1 with (fail)
  rw [← hW, ← hgx]
  clear hW hgx HHW
  go_upto_region 2 with (fail)
  refine (ISMALL_any neg A n c z _ W.heap.size (Nat.le_refl _) HNW).mono ?_
  rintro e w1 ⟨rfl, hb1⟩
  have HB1 := Lib.hid (HBW.out.trans (hb1.mono HSZ.out))
  clear hb1 hc0 hc1
  by_cases hs : z.natAbs < 9223372036854775808
  · have he : smallI z = (z, true) := by unfold smallI; rw [if_pos hs]
    rw [he]
    clear he
    have HP : Hid ((decide (-10000000000000 ≤ z) && decide (z ≤ 10000000000000)) = decide (z.natAbs ≤ 10000000000000)) := by
      show _ = _
      rw [← Bool.decide_and]
      exact decide_eq_decide.2 (by omega)
    by_cases hp : z.natAbs ≤ 10000000000000
    · have HV : Hid (posI z = (z, 0)) := by show _ = _; unfold posI; rw [if_pos hp]
      rw [decide_eq_true hp] at HP
      clear hs hp
      go_wp2_with (go_at_call 39; refine (ISPOS_any z _).mono ?_; rintro e w2 ⟨rfl, rfl⟩; rw [HP.out])
      go_ret2
      exact ⟨by rw [HV.out]; rfl, HB1.out⟩
    · have HV : Hid (posI z = (0, 1)) := by show _ = _; unfold posI; rw [if_neg hp]
      rw [decide_eq_false hp] at HP
      clear hs hp
      go_wp2_with (go_at_call 39; refine (ISPOS_any z _).mono ?_; rintro e w2 ⟨rfl, rfl⟩; rw [HP.out])
      go_ret2
      exact ⟨by rw [HV.out]; rfl, HB1.out⟩
  · have he : smallI z = (0, false) := by unfold smallI; rw [if_neg hs]
    have HV : Hid (posI z = (0, 1)) := by show _ = _; unfold posI; rw [if_neg (by omega)]
    rw [he]
    clear he hs
    go_wp2_with fail
    go_ret2
    exact ⟨by rw [HV.out]; rfl, HB1.out⟩
def convS (n frm tr way : Int) : Int × Int := if okPos n = false ∨ okRate frm = false ∨ okRate tr = false then (0, 1) else if okWay way = false then (0, 4) else posI (roundQ (mkRat (n * tr) frm.natAbs) way)
theorem run_field_i1 (ng : Bool) (A : Option Addr) (n c : Nat) (W : World) : (Instr.field 69 (.agg #[.bool ng, .slice A n c]) 1).run Tryd.prog W = .ok (.slice A n c) W := by
  kernel_rfl
end Go.Proofs.YthgjgiccoobcgaaDoor
