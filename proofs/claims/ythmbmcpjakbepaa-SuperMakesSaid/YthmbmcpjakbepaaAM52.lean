/- An abstract machine: an addition. No condition. -/
import Derived.Test.YthmbmcpjakbepaaAM51
import Derived.Test.YthmbmcpjakbepaaAM38
import Derived.Test.YthmbmcpjakbepaaAMb
namespace Go.AM
open Go
end Go.AM
