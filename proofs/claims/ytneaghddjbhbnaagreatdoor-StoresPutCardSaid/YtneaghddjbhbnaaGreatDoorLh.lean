import Derived.Test.YtneaghddjbhbnaaGreatDoorLa
namespace Go.Proofs.L11
open Go Go.Proofs Go.Ax
set_option maxRecDepth 1000000
theorem lives_run : pureRun E2 1000000 7 [] (.v (.bool true)) = true := by kernel_rfl
end Go.Proofs.L11
