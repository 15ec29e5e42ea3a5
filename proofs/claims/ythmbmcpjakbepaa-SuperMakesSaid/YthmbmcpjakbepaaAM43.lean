/- An abstract machine: an addition. No condition. -/
import Derived.Test.YthmbmcpjakbepaaAM42
import Derived.ChangeMaps
import Derived.Test.YthmbmcpjakbepaaAMb
namespace Go.AM
open Go Go.WideShapes Go.ChangeShapes Go.ChangeMaps
end Go.AM
