import Derived.Test.YtneaghddjbhbnaaGreatDoorLa
namespace Go.Proofs.L11
open Go Go.Proofs Go.Ax
set_option maxRecDepth 1000000
theorem gives1 : pureRun E1 1000000 13 [text1] data1 = true := by kernel_rfl
end Go.Proofs.L11
