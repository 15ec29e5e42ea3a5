/- Closed runs of the law: four members, the parity at the member 3. No condition. -/
import Derived.Test.YtjikaankdnmabaaWX
namespace Go.Proofs.Ytjikaankdnmabaa
open Go Go.AM
set_option maxRecDepth 100000
set_option maxHeartbeats 0
set_option linter.unusedVariables false
theorem runs_4_3a (rows r mk : Int) : runsL 5 4 3 rows r mk [15, 14] = .ok (List.replicate 108 [geo 5 4 rows, .int .i64 r]) (List.replicate 16 [.int .u8 mk]) := by kernel_rfl
theorem runs_4_3b (rows r mk : Int) : runsL 5 4 3 rows r mk [13, 11, 7] = .ok (List.replicate 162 [geo 5 4 rows, .int .i64 r]) (List.replicate 24 [.int .u8 mk]) := by kernel_rfl
theorem runs_4_3c (rows r mk : Int) : runsL 5 4 3 rows r mk [0, 1, 2, 3, 4, 5, 6, 8, 9, 10, 12] = .ok (List.replicate 176 [geo 5 4 rows, .int .i64 r]) (List.replicate 88 [.int .u8 mk]) := by kernel_rfl

end Go.Proofs.Ytjikaankdnmabaa
