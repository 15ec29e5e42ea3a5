/- An abstract machine: an addition. No condition. -/
import Derived.Test.YtjekgdkaejgpdaaGreatAM36
import Derived.Test.YtjekgdkaejgpdaaGreatAMb
namespace Go.AM
open Go
section
variable {cfy : Ys Prop → CF Prop} {sN sI sB : Sl} {x : Nat} {body : zAz}
end
end Go.AM
