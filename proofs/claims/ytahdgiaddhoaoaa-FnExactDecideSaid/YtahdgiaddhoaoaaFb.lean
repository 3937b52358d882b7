/- A closed fact of the program: what is lifted. -/
import Derived.Test.YtahdgiaddhoaoaaRows
import Derived.WalkKit
import Derived.ProofKit

set_option maxRecDepth 100000
namespace Go.Proofs.Ytahdgiaddhoaoaa.Facts
theorem lifts : Try.prog.liftsFinal = Rows.fnWithdrawalsRow.lifted := by kernel_rfl
end Go.Proofs.Ytahdgiaddhoaoaa.Facts
