/- An abstract machine: an addition. No condition. -/
import Derived.Test.YtblblhfgpcgheaaAM39
import Derived.Sort.Row
import Derived.Sort.Grow
import Derived.Lib.SlicesCompact
import Derived.Test.YtblblhfgpcgheaaAMb
namespace Go.AM
open Go
def inS (s : Sl) : List (Sl × V) → Prop
 | [] => False
 | (t, _) :: l => t = s ∨ inS s l
end Go.AM
