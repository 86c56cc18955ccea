/- winnowerlaw1.OctetNums, as the row wants it. -/
import Derived.Test.YtdicpnnmhjgnbaaOc8
import Derived.Test.YtdicpnnmhjgnbaaOpen
namespace Go.Proofs.Ytdicpnnmhjgnbaa.FW
open Go Go.RowKit Go.Proofs
theorem nums_law (W : World) (a : Option Addr) (len cap : Nat) (z : List Int) (hl : z.length = len) (hlc : len ≤ cap) (hc : RC (heapOf W) a (z.map (.int .i64))) (hw : ∀ x ∈ z, (Lit.int .i64 x).wf = true) :
    CallJ Try.prog 4 #[.slice a len cap] ⟨heapOf W, []⟩ (fun v _ _ => v = .bool true) := by
  refine nums_small a cap _ len z hc hl.symm (fun i hi => ?_)
  have hx := hw (z.getD i 0) (by simp [List.getD_eq_getElem?_getD, hi])
  simpa [Lit.wf, IntKind.min, IntKind.max, IntKind.signed, IntKind.bits] using hx
end Go.Proofs.Ytdicpnnmhjgnbaa.FW
