/- An abstract machine: an addition. No condition. -/
import Derived.Test.YtjekgdkaejgpdaaGreatAM42
import Derived.ChangeMaps
import Derived.Test.YtjekgdkaejgpdaaGreatAMb
namespace Go.AM
open Go Go.WideShapes Go.ChangeShapes Go.ChangeMaps
end Go.AM
