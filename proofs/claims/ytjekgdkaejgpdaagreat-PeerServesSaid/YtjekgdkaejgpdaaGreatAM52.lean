/- An abstract machine: an addition. No condition. -/
import Derived.Test.YtjekgdkaejgpdaaGreatAM51
import Derived.Test.YtjekgdkaejgpdaaGreatAM38
import Derived.Test.YtjekgdkaejgpdaaGreatAMb
namespace Go.AM
open Go
def ren2 (r0 r1 : Option Img) : Ren
  | 0 => r0
  | 1 => r1
  | _ => none
end Go.AM
