/- An abstract machine: an addition. No condition. -/
import Derived.Test.YtjekgdkaejgpdaaGreatAM36
import Derived.Test.YtjekgdkaejgpdaaGreatAMb
namespace Go.AM
open Go
section
variable (cfy : Ys Prop → CF Prop) (Y : Ys Prop) (nt B : Nat)
end
section
variable {P : Program} {cfy : Ys Prop → CF Prop} {nt : Nat}
end
end Go.AM
