/- An abstract machine: an addition. No condition. -/
import Derived.Test.YthmbmcpjakbepaaAM49
import Derived.Test.YthmbmcpjakbepaaAM43
import Derived.Test.YthmbmcpjakbepaaAMb
namespace Go.AM
abbrev oM := AObj.map
abbrev oC := AObj.cells
abbrev cB (C : Con) (l : List Nat) (b : List V) (last : CF Prop) (f : V) (a : List V) (X : Prop) : Prop :=
  (∀ (m' : Mem) (K' : V → Mem → Prop), ConAt C (nthD l) b m' → K' (V.ren (Con.tau C (nthD l) (Mem.next m')) (Con.ans C)) (Con.mem C (nthD l) m') → last f a m' K') ∧ Con.wf C = true ∧ true = true ∧ b = rens (nthD l) C.args ∧ X
abbrev cA (C : Con) (l : List Nat) (a : List V) (last : CF Prop) (g : Nat) (X : Prop) : Prop := cB C l a last (.func (.func g) [] []) a X
abbrev oR (l : List Nat) (X : AObj) : Prop := some X = some (AObj.ren (nthD l) X)
abbrev eC (C : Con) (l : List Nat) (n : Nat) (L : List V) : Prop := some (AObj.cells (rens (Con.tau C (nthD l) n) L) false) = some (AObj.cells L false)
abbrev rR {α : Type} (x : α) : Prop := x = x
theorem cI {n : Nat} {S : Con → Prop} {last : CF Prop} {C : Con} {σ : Nat → Nat} {a : List V} (hS : S C) (m' : Mem) (K' : V → Mem → Prop) (h1 : ConAt C σ a m') (h2 : K' (V.ren (Con.tau C σ (Mem.next m')) (Con.ans C)) (Con.mem C σ m')) : lastC n S last (.func (.func n) [] []) a m' K' := conIn hS h1 h2
theorem cM {n g : Nat} {S : Con → Prop} {last : CF Prop} {C : Con} {σ : Nat → Nat} {a : List V} (h : Nat.beq g n = false) (k : ∀ (m' : Mem) (K' : V → Mem → Prop), ConAt C σ a m' → K' (V.ren (Con.tau C σ (Mem.next m')) (Con.ans C)) (Con.mem C σ m') → last (.func (.func g) [] []) a m' K') (m' : Mem) (K' : V → Mem → Prop) (h1 : ConAt C σ a m') (h2 : K' (V.ren (Con.tau C σ (Mem.next m')) (Con.ans C)) (Con.mem C σ m')) : lastC n S last (.func (.func g) [] []) a m' K' := conMiss h (k m' K' h1 h2)
def EqZ : List V → Prop
  | [] => True
  | v :: l => v = v ∧ EqZ l
def fixS : List (Sl × V) → Sc → Sc
  | [], sc => sc
  | (s, v) :: l, sc => .fix s v (fixS l sc)
def AndS (T : Slots) : List (Sl × V) → Prop → Prop
  | [], p => p
  | (s, v) :: l, p => Slots.get T s = v ∧ AndS T l p
theorem andS {T : Slots} : ∀ {l : List (Sl × V)} {p : Prop}, allS T l → p → AndS T l p
  | [], _, _, h => h
  | _ :: _, _, h1, h => ⟨h1.1, andS h1.2 h⟩
def SamS : List (Sl × V) → Prop
  | [] => True
  | (_, v) :: l => v = v ∧ SamS l
theorem samS : ∀ l : List (Sl × V), SamS l
  | [] => trivial
  | _ :: l => ⟨rfl, samS l⟩
theorem eqZ : ∀ l : List V, EqZ l
  | [] => trivial
  | _ :: l => ⟨rfl, eqZ l⟩
end Go.AM
