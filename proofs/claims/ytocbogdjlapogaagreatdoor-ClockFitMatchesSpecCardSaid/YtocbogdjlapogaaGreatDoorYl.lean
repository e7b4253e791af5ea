/- clock: Frac, isPos, IsRate, isWay, round, position, Convert. -/
import Derived.Test.YtocbogdjlapogaaGreatDoorYj
import Derived.Test.YtocbogdjlapogaaGreatDoorZb
set_option linter.unusedSimpArgs false
set_option linter.unusedVariables false
namespace Go.Proofs.YtocbogdjlapogaaGreatDoor
open Go.RowKit Go.Dw
theorem frac_pos (a b : Int) (hb : 0 < b) : mkRat a b.natAbs = (a : Rat) / b := by
  have h : ((b.natAbs : Nat) : Int) = b := by omega
  rw [Rat.mkRat_eq_div, ← Rat.intCast_natCast, h]
theorem frac_neg (a b : Int) (hb : b < 0) : mkRat (-a) b.natAbs = (a : Rat) / b := by
  have h : ((b.natAbs : Nat) : Int) = -b := by omega
  rw [Rat.mkRat_eq_div, ← Rat.intCast_natCast, h, ← Rat.divInt_eq_div, Rat.neg_divInt_neg, Rat.divInt_eq_div]
end Go.Proofs.YtocbogdjlapogaaGreatDoor

/- clock: round, position, Convert. -/
set_option linter.unusedSimpArgs false
set_option linter.unusedVariables false
namespace Go.Proofs.YtocbogdjlapogaaGreatDoor
open Go.RowKit Go.Dw
def roundQ (q : Rat) (way : Int) : Int := if way = 1 then q.floor else if way = 3 then q.ceil else nearQ q
def posI (z : Int) : Int × Int := if z.natAbs ≤ 10000000000000 then (z, 0) else (0, 1)
def convS (n frm tr way : Int) : Int × Int := if okPos n = false ∨ okRate frm = false ∨ okRate tr = false then (0, 1) else if okWay way = false then (0, 4) else posI (roundQ (mkRat (n * tr) frm.natAbs) way)
theorem run_field_i1 (ng : Bool) (A : Option Addr) (n c : Nat) (W : World) : (Instr.field 36 (.agg #[.bool ng, .slice A n c]) 1).run Tryz.prog W = .ok (.slice A n c) W := by
  kernel_rfl
end Go.Proofs.YtocbogdjlapogaaGreatDoor
