/- A closed fact of the program: entries. -/
import Derived.Test.YtahdgiaddhoaoaaRows
import Derived.WalkKit
import Derived.ProofKit

set_option maxRecDepth 100000
namespace Go.Proofs.Ytahdgiaddhoaoaa.Facts
theorem mayEnter : Try.prog.mayEnter = true := by kernel_rfl
end Go.Proofs.Ytahdgiaddhoaoaa.Facts
