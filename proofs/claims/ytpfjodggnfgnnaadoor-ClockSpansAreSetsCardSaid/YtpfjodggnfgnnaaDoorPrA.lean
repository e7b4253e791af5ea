/- A pair of whole numbers. -/
import Derived.Test.YtpfjodggnfgnnaaDoorProg
set_option linter.unusedSimpArgs false
set_option linter.unusedVariables false
namespace Go.Proofs.YtpfjodggnfgnnaaDoor
abbrev Pr := Int × Int
end Go.Proofs.YtpfjodggnfgnnaaDoor
