/- winnowerlaw1.OctetSmall, as the row wants it. -/
import Derived.Test.YtdicpnnmhjgnbaaOcSmall
import Derived.Test.YtdicpnnmhjgnbaaOpen
namespace Go.Proofs.Ytdicpnnmhjgnbaa.FW
open Go Go.RowKit Go.Proofs
theorem small_law (W : World) (a0 : Int) (w0 : (Lit.int .i64 a0).wf = true) : CallJ Try.prog 3 #[.int .i64 a0] ⟨heapOf W, []⟩ (fun v _ _ => v = .bool true) := by
  have hx : -9223372036854775808 ≤ a0 ∧ a0 ≤ 9223372036854775807 := by simpa [Lit.wf, IntKind.min, IntKind.max, IntKind.signed, IntKind.bits] using w0
  exact small_calls _ a0 hx.1 hx.2
end Go.Proofs.Ytdicpnnmhjgnbaa.FW
