/- Definitions. No condition. -/
import Derived.Test.YthmbmcpjakbepaaMQ
namespace Go.Proofs.Ythmbmcpjakbepaa
open Go Go.AM
set_option maxRecDepth 100000
set_option maxHeartbeats 0
set_option linter.unusedVariables false
inductive S23 : Con → Prop
  | mk (D : Dk) (X : List V) (n k : Nat) (q : Int) (ok : DkOk D ofRs X n) : S23 ⟨[.slice 0 0 n k 2, .int .i64 q], [.cells X false], makeV D q n, [.cells X false], []⟩
noncomputable abbrev la11 : CF Prop := lastC 23 S23 la9
theorem nC {p : Prop} (h : false = true) : p := Bool.noConfusion h
theorem mono11 : MonoCF la11 := mono_c mono9
def c8A : ACode := fstC c8.body
def c8B : ACode := fstC (sndC c8.body)
def c8R : ACode := sndC (sndC c8.body)
theorem c8_eq : c8 = ⟨123, [.tmp s4], .seq c8A (.seq c8B c8R)⟩ := rfl
end Go.Proofs.Ythmbmcpjakbepaa
