/- An abstract machine: an addition. No condition. -/
import Derived.Test.YtjekgdkaejgpdaaGreatAMb
namespace Go.AM
open Go
mutual
def V.same : V → V → Bool
  | .bool a, .bool b => a == b
  | .int j a, .int k b => zGw j k && eqI a b
  | .str a, .str b => zFn a b
  | .nilptr, .nilptr => true
  | .nilslice, .nilslice => true
  | .nilmap, .nilmap => true
  | .nilfunc, .nilfunc => true
  | .niliface, .niliface => true
  | .agg a, .agg b => sames a b
  | .tuple a, .tuple b => sames a b
  | _, _ => false
def sames : List V → List V → Bool
  | [], [] => true
  | a :: as, b :: bs => a.same b && sames as bs
  | _, _ => false
end
end Go.AM
