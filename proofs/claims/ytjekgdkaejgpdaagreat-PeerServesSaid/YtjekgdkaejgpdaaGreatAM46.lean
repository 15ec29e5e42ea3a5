/- An abstract machine: an addition. No condition. -/
import Derived.Test.YtjekgdkaejgpdaaGreatAM36
import Derived.Test.YtjekgdkaejgpdaaGreatAMb
namespace Go.AM
open Go
def zEQ (n off : Nat) (cs : List V) : Option V :=
  match takeN n (zCk off cs) with
  | some cs => some (.agg cs)
  | none => none
end Go.AM
