/- An abstract machine: an addition. No condition. -/
import Derived.Test.YtjikaankdnmabaaAM44
import Derived.Test.YtjikaankdnmabaaAMb
namespace Go.AM
end Go.AM
