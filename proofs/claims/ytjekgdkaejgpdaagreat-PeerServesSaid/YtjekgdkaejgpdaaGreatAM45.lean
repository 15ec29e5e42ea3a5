/- An abstract machine: an addition. No condition. -/
import Derived.Test.YtjekgdkaejgpdaaGreatAM44
import Derived.Test.YtjekgdkaejgpdaaGreatAM40
import Derived.Test.YtjekgdkaejgpdaaGreatAMb
namespace Go.AM
open Go
theorem zEe : ∀ (l : List V), takeN l.length l = some l
 | [] => rfl
 | v :: l => by simp only [List.length_cons, takeN, zEe l]
section
variable {tab : Nat → Option zAr} {last : CF Prop}
end
section
variable {tab : Nat → Option zAr} {last0 : CF Prop}
end
end Go.AM
