/- An abstract machine: an addition. No condition. -/
import Derived.Test.YtjekgdkaejgpdaaGreatAM44
import Derived.Test.YtjekgdkaejgpdaaGreatAMb
namespace Go.AM
end Go.AM
