/- Closed facts of the program: its make, what is laid out. -/
import Derived.Test.YtahdgiaddhoaoaaRows
import Derived.WalkKit
import Derived.ProofKit

set_option maxRecDepth 100000
namespace Go.Proofs.Ytahdgiaddhoaoaa.Facts
theorem make : (Try.prog.make == some Rows.fnWithdrawalsRow.make) = true := by kernel_rfl
theorem laid : laidOutB Try.prog = true := by kernel_rfl
theorem rowed : mapsRowed Try.prog = true := by kernel_rfl
theorem heard : Try.prog.stopsHeard = true := by kernel_rfl
end Go.Proofs.Ytahdgiaddhoaoaa.Facts
