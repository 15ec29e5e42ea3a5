/- Votes: definitions. No condition. -/
import Derived.Test.YthmbmcpjakbepaaSE
import Derived.Test.YthmbmcpjakbepaaAM45
import Derived.Test.YthmbmcpjakbepaaAM46
namespace Go.Proofs.Ythmbmcpjakbepaa
open Go Go.AM
set_option maxRecDepth 100000
set_option maxHeartbeats 0
set_option linter.unusedVariables false
def c39l0b : ACode := sndC (sndC c39l0)
theorem c39l0_eq : c39l0 = rangeB s15 s14 s16 0 c39l0b := rfl
structure Sp where
  (a m l n r e p x0 x1 x2 x3 c : Int)
  deriving DecidableEq
abbrev K12 : KT := .many [.int, .int, .int, .int, .int, .int, .int, .int, .int, .int, .int, .int]
abbrev cel (a m l n r e p x0 x1 x2 x3 c : Int) : List V := [.int .i64 a, .int .i64 m, .int .i64 l, .int .i64 n, .int .i64 r, .int .i64 e, .int .i64 p, .int .i64 x0, .int .i64 x1, .int .i64 x2, .int .i64 x3, .int .i64 c]
abbrev cel0 : List V := cel 0 0 0 0 0 0 0 0 0 0 0 0
abbrev Sp.v (s : Sp) : V := sup s.a s.m s.l s.n s.r s.e s.p s.x0 s.x1 s.x2 s.x3 s.c
abbrev Sp.cs (s : Sp) : List V := cel s.a s.m s.l s.n s.r s.e s.p s.x0 s.x1 s.x2 s.x3 s.c
abbrev sp0 : Sp := ⟨0, 0, 0, 0, 0, 0, 0, 0, 0, 0, 0, 0⟩
abbrev says (s : Sp) : Sp := ⟨s.a, 0, s.l, s.n, s.r, s.e, s.p, s.x0, s.x1, s.x2, s.x3, s.c⟩
def vV : Nat → List (Sp × Nat) → List En
  | _, [] => []
  | i, (k, n) :: L => (k.v, .int .i64 ((n : Nat) : Int), i) :: vV (i + 1) L
def addW (k : Sp) : List (Sp × Nat) → List (Sp × Nat)
  | [] => [(k, 1)]
  | (j, n) :: L => if k = j then (j, n + 1) :: L else (j, n) :: addW k L
def preW (k : Sp) : List (Sp × Nat) → List (Sp × Nat)
  | [] => [(k, 0)]
  | (j, n) :: L => if k = j then (j, n) :: L else (j, n) :: preW k L
def getW (k : Sp) : List (Sp × Nat) → Nat
  | [] => 0
  | (j, n) :: L => if k = j then n else getW k L
def posW (k : Sp) : List (Sp × Nat) → Nat
  | [] => 0
  | (j, _) :: L => if k = j then 0 else posW k L + 1
def hasW (k : Sp) : List (Sp × Nat) → Bool
  | [] => false
  | (j, _) :: L => decide (k = j) || hasW k L
def aliveB (s : Sp) : Bool := decide (s.x0 = 1) && decide (s.x1 = 1) && (decide (s.n = 2) || decide (s.x2 = 1)) && (decide (s.n = 2) || decide (s.n = 3) || decide (s.x3 = 1))
def wgt (W : List (Sp × Nat)) (s : Sp) : Nat := 2 * getW (says s) W + (bif aliveB s then 0 else 1)
inductive S42 : Con → Prop
  | mk (s : Sp) (W : List (Sp × Nat)) (hn : s.n = 2 ∨ s.n = 3 ∨ s.n = 4) (hk : getW (says s) W ≤ 100) : S42 ⟨[s.v, .ptr 0 0], [.cells [.map 1] false, .map (vV 0 W) W.length false], .int .i64 ((wgt W s : Nat) : Int), [.cells [.map 1] false, .map (vV 0 W) W.length false], []⟩
def oV : Nat → List (Nat × Sp) → List En
  | _, [] => []
  | i, (d, s) :: L => (.int .i64 ((d : Nat) : Int), s.v, i) :: oV (i + 1) L
def keysO (L : List (Nat × Sp)) : List Int := L.map fun x => ((x.1 : Nat) : Int)
inductive S45 : Con → Prop
  | mk (L : List (Nat × Sp)) (hL : L ≠ []) (hl : L.length ≤ 100) : S45 ⟨[.func (.func 52) [] [.ptr 0 0]], [.cells [.map 1] false, .map (oV 0 L) L.length false], .slice 2 0 L.length L.length 1, [.cells [.map 1] false, .map (oV 0 L) L.length false], [(2, .cells (iV (sortI (keysO L))) false)]⟩
abbrev la39 : CF Prop := lastCl 42 S42 (lastC 45 S45 la0)
theorem mono39 : MonoCF la39 := mono_cl (mono_c mono_false)
abbrev tbW : Nat → Option AFunc := fun f => bif Nat.beq f 41 then some c41 else bif Nat.beq f 43 then some c43 else bif Nat.beq f 44 then some c44 else bif Nat.beq f 49 then some c49 else none
abbrev tb39 : Nat → Option AFunc := fun f => bif Nat.beq f 41 then some c41 else bif Nat.beq f 46 then some c46 else none
end Go.Proofs.Ythmbmcpjakbepaa
