/- An abstract machine: an addition. No condition. -/
import Derived.Test.YtblblhfgpcgheaaAM36
import Derived.Test.YtblblhfgpcgheaaAMb
namespace Go.AM
open Go
def loadV (n off : Nat) (cs : List V) : Option V :=
  match takeN n (dropN off cs) with
  | some cs => some (.agg cs)
  | none => none
end Go.AM
