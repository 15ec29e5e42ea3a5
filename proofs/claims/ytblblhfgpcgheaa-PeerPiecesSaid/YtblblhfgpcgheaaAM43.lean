/- An abstract machine: an addition. No condition. -/
import Derived.Test.YtblblhfgpcgheaaAM42
import Derived.ChangeMaps
import Derived.Test.YtblblhfgpcgheaaAMb
namespace Go.AM
open Go Go.WideShapes Go.ChangeShapes Go.ChangeMaps
end Go.AM
