/- An abstract machine: an addition. No condition. -/
import Derived.Test.YtjekgdkaejgpdaaGreatAM45
import Derived.Test.YtjekgdkaejgpdaaGreatAM46
import Derived.Test.YtjekgdkaejgpdaaGreatAMb
namespace Go.AM
open Go
end Go.AM
