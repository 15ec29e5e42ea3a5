/- An abstract machine: an addition. No condition. -/
import Derived.Test.YtjekgdkaejgpdaaGreatAM34
import Derived.Test.YtjekgdkaejgpdaaGreatAMb
namespace Go.AM
open Go
inductive Hd where
  | slice (len sz : Nat)
  | map
def Hd.v (b : Nat) : Hd → V
  | .slice len sz => .slice b 0 len len sz
  | .map => .map b
def layV (h : Hd) (rest : Option (List V)) (b : Nat) : V :=
  match rest with
  | none => h.v b
  | some r => .tuple (h.v b :: r)
inductive Lay where
  | plain (v : V)
  | new (h : Hd) (rest : Option (List V)) (o : zAe)
def Lay.go {R : Type} (L : Lay) (m : Mem) (K : V → Mem → R) : R :=
  match L with
  | .plain v => K v m
  | .new h rest o => K (layV h rest m.next) (m.new o)
end Go.AM
