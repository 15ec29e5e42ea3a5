/- Make: definitions. No condition. -/
import Derived.Test.YthmbmcpjakbepaaKQ
namespace Go.Proofs.Ythmbmcpjakbepaa
open Go Go.AM
set_option maxRecDepth 100000
set_option maxHeartbeats 0
set_option linter.unusedVariables false
abbrev h6 (n k : Nat) (q : Int) (r : List (Sl × V)) : List (Sl × V) := (s0, .slice 0 0 n k 2) :: (s1, .int .i64 q) :: (s4, .ptr 1 0) :: (s5, .int .i64 0) :: (s6, .ptr 2 0) :: (s7, .map 3) :: r
abbrev P6 (T : Slots) (n k : Nat) (q : Int) (r : Prop) : Prop := Slots.get T s0 = V.slice 0 0 n k 2 ∧ Slots.get T s1 = V.int .i64 q ∧ Slots.get T s4 = V.ptr 1 0 ∧ Slots.get T s5 = V.int .i64 0 ∧ Slots.get T s6 = V.ptr 2 0 ∧ Slots.get T s7 = V.map 3 ∧ r
abbrev F6 (n k : Nat) (q : Int) (r : Sc) : Sc := .fix s0 (V.slice 0 0 n k 2) (.fix s1 (V.int .i64 q) (.fix s4 (V.ptr 1 0) (.fix s5 (V.int .i64 0) (.fix s6 (V.ptr 2 0) (.fix s7 (V.map 3) r)))))
inductive S39 : Con → Prop
  | mk (L : List (Nat × Sp)) (ok : OwnOk L) : S39 ⟨[.map 0], [.map (oV 0 L) L.length false], (pick (L.map (·.2))).v, [.map (oV 0 L) L.length false], []⟩
abbrev la23 (R : List V → Option V) : CF Prop := lastC 39 S39 (lastFn 20 R la0)
theorem mono23 {R : List V → Option V} : MonoCF (la23 R) := mono_c (mono_fn mono_false)
abbrev tb23 : Nat → Option AFunc := fun _ => none
abbrev mad (a m l n r e p x0 x1 x2 x3 c d0 d1 d2 d3 : Int) (f0 f1 f2 f3 : Bool) : List V := [.int .i64 a, .int .i64 m, .int .i64 l, .int .i64 n, .int .i64 r, .int .i64 e, .int .i64 p, .int .i64 x0, .int .i64 x1, .int .i64 x2, .int .i64 x3, .int .i64 c, .int .i64 d0, .int .i64 d1, .int .i64 d2, .int .i64 d3, .bool f0, .bool f1, .bool f2, .bool f3]
abbrev mad0 : List V := mad 0 0 0 0 0 0 0 0 0 0 0 0 0 0 0 0 false false false false
abbrev mad1 : List V := mad 0 0 0 0 0 0 0 0 0 0 0 0 (-1) (-1) (-1) (-1) false false false false
end Go.Proofs.Ythmbmcpjakbepaa
