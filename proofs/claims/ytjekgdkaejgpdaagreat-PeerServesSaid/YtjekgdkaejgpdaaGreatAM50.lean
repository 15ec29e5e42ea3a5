/- An abstract machine: an addition. No condition. -/
import Derived.Test.YtjekgdkaejgpdaaGreatAM49
import Derived.Test.YtjekgdkaejgpdaaGreatAM43
import Derived.Test.YtjekgdkaejgpdaaGreatAMb
namespace Go.AM
abbrev oM := zAe.map
abbrev oC := zAe.cells
abbrev cB (C : Con) (l : List Nat) (b : List V) (last : CF Prop) (f : V) (a : List V) (X : Prop) : Prop :=
  (∀ (m' : Mem) (K' : V → Mem → Prop), ConAt C (zAJ l) b m' → K' (V.ren (Con.tau C (zAJ l) (Mem.next m')) (Con.ans C)) (Con.mem C (zAJ l) m') → last f a m' K') ∧ Con.wf C = true ∧ true = true ∧ b = zDr (zAJ l) C.args ∧ X
abbrev qA (Q : EnL → Prop) (C : EnL → Con) (l : List Nat) (a : List V) (last : CF Prop) (g : Nat) : Prop :=
  ∀ (m' : Mem) (K' : V → Mem → Prop), (∃ x, Q x) → (∀ x, Q x → ConAt (C x) (zAJ l) a m') → (∀ x, Q x → K' (V.ren (Con.tau (C x) (zAJ l) (Mem.next m')) (Con.ans (C x))) (Con.mem (C x) (zAJ l) m')) → last (.func (.func g) [] []) a m' K'
abbrev rR {α : Type} (x : α) : Prop := x = x
def EqZ : List V → Prop
  | [] => True
  | v :: l => v = v ∧ EqZ l
def zCa : List (Sl × V) → Sc → Sc
  | [], sc => sc
  | (s, v) :: l, sc => .fix s v (zCa l sc)
def zBU (T : zAa) : List (Sl × V) → Prop → Prop
  | [], p => p
  | (s, v) :: l, p => zAa.get T s = v ∧ zBU T l p
theorem zBW {T : zAa} : ∀ {l : List (Sl × V)} {p : Prop}, zAG T l → p → zBU T l p
  | [], _, _, h => h
  | _ :: _, _, h1, h => ⟨h1.1, zBW h1.2 h⟩
def zBY : List (Sl × V) → Prop
  | [] => True
  | (_, v) :: l => v = v ∧ zBY l
theorem zBZ : ∀ l : List (Sl × V), zBY l
  | [] => trivial
  | _ :: l => ⟨rfl, zBZ l⟩
theorem eqZ : ∀ l : List V, EqZ l
  | [] => trivial
  | _ :: l => ⟨rfl, eqZ l⟩
end Go.AM
