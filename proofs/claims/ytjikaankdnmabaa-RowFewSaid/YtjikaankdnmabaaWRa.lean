/- Closed runs of the law: two and three members. No condition. -/
import Derived.Test.YtjikaankdnmabaaWX
namespace Go.Proofs.Ytjikaankdnmabaa
open Go Go.AM
set_option maxRecDepth 100000
set_option maxHeartbeats 0
set_option linter.unusedVariables false
theorem runs_2_1 (rows r mk : Int) : runsL 1 2 1 rows r mk (List.range 16) = .ok (List.replicate 112 [geo 1 2 rows, .int .i64 r]) (List.replicate 32 [.int .u8 mk]) := by kernel_rfl
theorem runs_3_0 (rows r mk : Int) : runsL 5 3 0 rows r mk (List.range 16) = .ok (List.replicate 224 [geo 5 3 rows, .int .i64 r]) (List.replicate 64 [.int .u8 mk]) := by kernel_rfl
theorem runs_3_1 (rows r mk : Int) : runsL 5 3 1 rows r mk (List.range 16) = .ok (List.replicate 224 [geo 5 3 rows, .int .i64 r]) (List.replicate 64 [.int .u8 mk]) := by kernel_rfl
theorem runs_3_2 (rows r mk : Int) : runsL 5 3 2 rows r mk (List.range 16) = .ok (List.replicate 224 [geo 5 3 rows, .int .i64 r]) (List.replicate 64 [.int .u8 mk]) := by kernel_rfl

end Go.Proofs.Ytjikaankdnmabaa
