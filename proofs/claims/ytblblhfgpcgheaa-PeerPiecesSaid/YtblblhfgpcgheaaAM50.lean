/- An abstract machine: an addition. No condition. -/
import Derived.Test.YtblblhfgpcgheaaAM49
import Derived.Test.YtblblhfgpcgheaaAM43
import Derived.Test.YtblblhfgpcgheaaAMb
namespace Go.AM
abbrev oM := AObj.map
abbrev oC := AObj.cells
abbrev rR {α : Type} (x : α) : Prop := x = x
def EqZ : List V → Prop
  | [] => True
  | v :: l => v = v ∧ EqZ l
def fixS : List (Sl × V) → Sc → Sc
  | [], sc => sc
  | (s, v) :: l, sc => .fix s v (fixS l sc)
def AndS (T : Slots) : List (Sl × V) → Prop → Prop
  | [], p => p
  | (s, v) :: l, p => Slots.get T s = v ∧ AndS T l p
theorem andS {T : Slots} : ∀ {l : List (Sl × V)} {p : Prop}, allS T l → p → AndS T l p
  | [], _, _, h => h
  | _ :: _, _, h1, h => ⟨h1.1, andS h1.2 h⟩
def SamS : List (Sl × V) → Prop
  | [] => True
  | (_, v) :: l => v = v ∧ SamS l
theorem samS : ∀ l : List (Sl × V), SamS l
  | [] => trivial
  | _ :: l => ⟨rfl, samS l⟩
theorem eqZ : ∀ l : List V, EqZ l
  | [] => trivial
  | _ :: l => ⟨rfl, eqZ l⟩
end Go.AM
