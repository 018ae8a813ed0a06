/- The order of ctx.may's long region, checked once. No condition. -/
import Derived.Test.YtokclcilpekfiaaGreatDoorLex
namespace Go.Proofs.YtokclcilpekfiaaGreatDoor
open Go.RowKit
noncomputable def mayOps : Array Oper := regOf Tryz.f22 2
set_option maxRecDepth 100000 in
theorem mayLex : lexAll mayOps (· + 16) 81 = true := by kernel_rfl
end Go.Proofs.YtokclcilpekfiaaGreatDoor
