/- An abstract machine: an addition. No condition. -/
import Derived.Test.YtblblhfgpcgheaaAM51
import Derived.Test.YtblblhfgpcgheaaAM38
import Derived.Test.YtblblhfgpcgheaaAMb
namespace Go.AM
open Go
end Go.AM
