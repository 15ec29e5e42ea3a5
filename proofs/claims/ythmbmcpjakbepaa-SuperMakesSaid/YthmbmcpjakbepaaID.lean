/- Definitions. No condition. -/
import Derived.Test.YthmbmcpjakbepaaMQ
namespace Go.Proofs.Ythmbmcpjakbepaa
open Go Go.AM
set_option maxRecDepth 100000
set_option maxHeartbeats 0
set_option linter.unusedVariables false
inductive S23 : Con → Prop
  | mk (D : Dk) (X : List V) (n k : Nat) (q : Int) (ok : DkOk D ofRs X n) : S23 ⟨[.slice 0 0 n k 2, .int .i64 q], [.cells X false], makeV D q n, [.cells X false], []⟩
end Go.Proofs.Ythmbmcpjakbepaa
