/- An abstract machine: an addition. No condition. -/
import Derived.Test.YtjekgdkaejgpdaaGreatAM43
import Derived.ChangeMaps3
import Derived.Test.YtjekgdkaejgpdaaGreatAMb
namespace Go.AM
open Go Go.WideShapes Go.ChangeShapes Go.ChangeMaps
end Go.AM
