/- How a function ends whose first result is a sound that lies in memory, continued: its cells known. -/
import Derived.Test.YtpnbkkpbgpcgiaaEnds
set_option linter.unusedSimpArgs false
set_option linter.unusedVariables false
namespace Go.Proofs.Ytpnbkkpbgpcgiaa
open Go.RowKit Go.Dw
section
variable {fn : Func} {R : Ending → World → Prop} {a : Act} {w : World} {p u x : Tmp} {g : Nat} {v0 v1 : Value}
theorem fin_snd1 (h : fn.results = #[.cell p 24]) (hp : a.tmps.getD p undef = .pointer (some ⟨g, 0, none⟩)) (hd : a.defers = []) (c0 : w.cell? ⟨g, 0, none⟩ = some v0) (c1 : w.cell? ⟨g, 1, none⟩ = some v1)
    (hR : R (.returned (.agg #[v0, v1])) w) : bodyPost Try.prog fn R .ret a w := bodyPost_ret (res_snd1 h hp c0 c1) hd hR
theorem fin_snd2 (h : fn.results = #[.cell p 24, .tmp u]) (hp : a.tmps.getD p undef = .pointer (some ⟨g, 0, none⟩)) (hd : a.defers = []) (c0 : w.cell? ⟨g, 0, none⟩ = some v0) (c1 : w.cell? ⟨g, 1, none⟩ = some v1)
    (hR : R (.returned (.tuple #[.agg #[v0, v1], a.tmps.getD u undef])) w) : bodyPost Try.prog fn R .ret a w := bodyPost_ret (res_snd2 h hp c0 c1) hd hR
theorem fin_snd3 (h : fn.results = #[.cell p 24, .tmp u, .tmp x]) (hp : a.tmps.getD p undef = .pointer (some ⟨g, 0, none⟩)) (hd : a.defers = []) (c0 : w.cell? ⟨g, 0, none⟩ = some v0) (c1 : w.cell? ⟨g, 1, none⟩ = some v1)
    (hR : R (.returned (.tuple #[.agg #[v0, v1], a.tmps.getD u undef, a.tmps.getD x undef])) w) : bodyPost Try.prog fn R .ret a w := bodyPost_ret (res_snd3 h hp c0 c1) hd hR
end
end Go.Proofs.Ytpnbkkpbgpcgiaa
