/- clock.BarOf. -/
import Derived.Test.YthgjgiccoobcgaaGreatDoorBar
import Derived.Test.YthgjgiccoobcgaaGreatDoorYp
import Derived.Test.YthgjgiccoobcgaaGreatDoorRegion3
import Derived.Test.YthgjgiccoobcgaaGreatDoorZb
set_option linter.unusedSimpArgs false
set_option linter.unusedVariables false
namespace Go.Proofs.YthgjgiccoobcgaaGreatDoor
open Go.RowKit Go.Dw Go.Joins
theorem ITOAZ_any (v : Int) (h0 : 0 ≤ v) (h1 : v ≤ 1000000000000) (w : World) (ht : Hid (TabAt w)) : Calls Tryz.prog 32 #[.int .i64 v] w fun e w' => ∃ z : ByteArray, e = .returned (.string z) ∧ z.size ≤ 13 ∧ Hid (z.data.toList = Lib.decDigits v.toNat) ∧ Below w.heap.size w w' := by
  obtain ⟨k, rfl⟩ : ∃ k : Nat, v = (k : Int) := ⟨v.toNat, by omega⟩
  refine (ITOA_any k (by omega) w ht).mono ?_
  rintro e w' ⟨rfl, hb⟩
  have := dec_len 13 k (by omega) (by omega)
  exact ⟨_, rfl, by rw [← len_data]; exact this, by show _ = _; rw [Int.toNat_natCast], hb⟩
end Go.Proofs.YthgjgiccoobcgaaGreatDoor
