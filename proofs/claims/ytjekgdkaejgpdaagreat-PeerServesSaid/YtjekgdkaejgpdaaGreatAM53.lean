/- An abstract machine: an addition. No condition. -/
import Derived.Test.YtjekgdkaejgpdaaGreatAM52
import Derived.Test.YtjekgdkaejgpdaaGreatAM40
import Derived.OpenShut
import Derived.Test.YtjekgdkaejgpdaaGreatAMb
namespace Go.AM
open Go Go.WideShapes Go.ChangeShapes Go.ChangeMaps
section
variable {P : Program} {t e : TypeId}
end
theorem addr_add (b off n : Nat) : (⟨b, off, none⟩ : Addr).add n = ⟨b, off + n, none⟩ := by
 unfold Addr.add
 split
 ·rename_i h; subst h; rfl
 ·rfl
end Go.AM
