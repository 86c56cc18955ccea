/- structs that may be compared: written by a program -/
import Derived.Test.YtdicpnnmhjgnbaaX2
import Derived.Test.YtdicpnnmhjgnbaaT
namespace Go.Proofs.Ytdicpnnmhjgnbaa.FW
open Go Go.Proofs Go.RowKit
set_option linter.unusedSimpArgs false
end Go.Proofs.Ytdicpnnmhjgnbaa.FW
