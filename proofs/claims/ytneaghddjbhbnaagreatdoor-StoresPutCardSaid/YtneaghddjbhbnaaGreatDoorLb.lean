import Derived.Test.YtneaghddjbhbnaaGreatDoorLa
namespace Go.Proofs.L11
open Go Go.Proofs Go.Ax
set_option maxRecDepth 1000000
theorem table_run : mapRun E0 1000000 127 wordsE = true := by kernel_rfl
end Go.Proofs.L11
