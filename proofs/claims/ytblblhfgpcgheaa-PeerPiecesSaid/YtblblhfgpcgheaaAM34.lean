/- An abstract machine: an addition. No condition. -/
import Derived.Test.YtblblhfgpcgheaaAMb
namespace Go.AM
open Go
mutual
def V.same : V → V → Bool
  | .bool a, .bool b => a == b
  | .int j a, .int k b => kindEq j k && eqI a b
  | .str a, .str b => beqL a b
  | .nilptr, .nilptr => true
  | .nilslice, .nilslice => true
  | .nilmap, .nilmap => true
  | .nilfunc, .nilfunc => true
  | .niliface, .niliface => true
  | .agg a, .agg b => sames a b
  | .tuple a, .tuple b => sames a b
  | _, _ => false
def sames : List V → List V → Bool
  | [], [] => true
  | a :: as, b :: bs => a.same b && sames as bs
  | _, _ => false
end
theorem beqL_eq : ∀ {a b : List Nat}, beqL a b = true → a = b
  | [], [], _ => rfl
  | a :: x, b :: y, h => by
    simp only [beqL, Bool.and_eq_true] at h
    rw [Nat.eq_of_beq_eq_true h.1, beqL_eq h.2]
  | [], _ :: _, h => by cases h
  | _ :: _, [], h => by cases h
end Go.AM
