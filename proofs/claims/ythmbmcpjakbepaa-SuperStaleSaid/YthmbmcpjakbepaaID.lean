/- Definitions. No condition. -/
import Derived.Test.YthmbmcpjakbepaaMQ
namespace Go.Proofs.Ythmbmcpjakbepaa
open Go Go.AM
set_option maxRecDepth 100000
set_option maxHeartbeats 0
set_option linter.unusedVariables false
inductive S23 : Con → Prop
  | mk (D : Dk) (X : List V) (n k : Nat) (q : Int) (ok : DkOk D ofRs X n) : S23 ⟨[.slice 0 0 n k 2, .int .i64 q], [.cells X false], makeV D q n, [.cells X false], []⟩
theorem nC {p : Prop} (h : false = true) : p := Bool.noConfusion h
def one0 (f : Bool) (x : Int) : Int := if f = true ∧ x = 1 then 0 else 1
noncomputable def outs (n : Int) (f0 f1 f2 f3 : Bool) (x0 x1 x2 x3 : Int) : Int := one0 f0 x0 + one0 f1 x1 + (if n = 2 then 0 else one0 f2 x2) + (if n = 4 then one0 f3 x3 else 0)
theorem wkEx (a m l n r e p x0 x1 x2 x3 c : Int) (f0 f1 f2 f3 : Bool) : ∃ b, b = (rightS a m l n r e p x0 x1 x2 x3 c && decide (outs n f0 f1 f2 f3 x0 x1 x2 x3 ≤ 1)) := ⟨_, rfl⟩
noncomputable def wkS (a m l n r e p x0 x1 x2 x3 c : Int) (f0 f1 f2 f3 : Bool) : Bool := Classical.choose (wkEx a m l n r e p x0 x1 x2 x3 c f0 f1 f2 f3)
theorem wkS_eq (a m l n r e p x0 x1 x2 x3 c : Int) (f0 f1 f2 f3 : Bool) : wkS a m l n r e p x0 x1 x2 x3 c f0 f1 f2 f3 = (rightS a m l n r e p x0 x1 x2 x3 c && decide (outs n f0 f1 f2 f3 x0 x1 x2 x3 ≤ 1)) := Classical.choose_spec (wkEx a m l n r e p x0 x1 x2 x3 c f0 f1 f2 f3)
noncomputable def wkR : List V → Option V
  | [.agg [.int .i64 a, .int .i64 m, .int .i64 l, .int .i64 n, .int .i64 r, .int .i64 e, .int .i64 p, .int .i64 x0, .int .i64 x1, .int .i64 x2, .int .i64 x3, .int .i64 c, .int .i64 _, .int .i64 _, .int .i64 _, .int .i64 _, .bool f0, .bool f1, .bool f2, .bool f3]] => some (.bool (wkS a m l n r e p x0 x1 x2 x3 c f0 f1 f2 f3))
  | _ => none
noncomputable abbrev la12 : CF Prop := lastC 23 S23 (lastFn 26 wkR la9)
theorem mono12 : MonoCF la12 := mono_c (mono_fn mono9)
end Go.Proofs.Ythmbmcpjakbepaa
