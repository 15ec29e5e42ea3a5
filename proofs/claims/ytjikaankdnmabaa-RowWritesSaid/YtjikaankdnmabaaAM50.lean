/- An abstract machine: an addition. No condition. -/
import Derived.Test.YtjikaankdnmabaaAM49
import Derived.Test.YtjikaankdnmabaaAM43
import Derived.Test.YtjikaankdnmabaaAMb
namespace Go.AM
abbrev LL := List (Int × List Nat × Nat)
abbrev oM := AObj.map
abbrev oC := AObj.cells
abbrev oI := AObj.iter
abbrev cB (C : Con) (l : List Nat) (b : List V) (last : CF Prop) (f : V) (a : List V) (X : Prop) : Prop :=
  (∀ (m' : Mem) (K' : V → Mem → Prop), ConAt C (nthD l) b m' → K' (V.ren (Con.tau C (nthD l) (Mem.next m')) (Con.ans C)) (Con.mem C (nthD l) m') → last f a m' K') ∧ Con.wf C = true ∧ true = true ∧ b = rens (nthD l) C.args ∧ X
abbrev cA (C : Con) (l : List Nat) (a : List V) (last : CF Prop) (g : Nat) (X : Prop) : Prop := cB C l a last (.func (.func g) [] []) a X
abbrev qA (Q : EnL → Prop) (C : EnL → Con) (l : List Nat) (a : List V) (last : CF Prop) (g : Nat) : Prop :=
  ∀ (m' : Mem) (K' : V → Mem → Prop), (∃ x, Q x) → (∀ x, Q x → ConAt (C x) (nthD l) a m') → (∀ x, Q x → K' (V.ren (Con.tau (C x) (nthD l) (Mem.next m')) (Con.ans (C x))) (Con.mem (C x) (nthD l) m')) → last (.func (.func g) [] []) a m' K'
abbrev oR (l : List Nat) (X : AObj) : Prop := some X = some (AObj.ren (nthD l) X)
abbrev eM (C : Con) (l : List Nat) (n : Nat) (L : List (V × V × Nat)) (c : Nat) (ro : Bool) : Prop := some (AObj.map (erens (Con.tau C (nthD l) n) L) c ro) = some (AObj.map L c ro)
abbrev eC (C : Con) (l : List Nat) (n : Nat) (L : List V) : Prop := some (AObj.cells (rens (Con.tau C (nthD l) n) L) false) = some (AObj.cells L false)
abbrev rR {α : Type} (x : α) : Prop := x = x
theorem kM {σ : Nat → Nat} {L : LL} {c : Nat} {ro : Bool} : some (AObj.map (erens σ (mV L)) c ro) = some (AObj.map (mV L) c ro) := congrArg (fun x => some (AObj.map x c ro)) (erens_mV _ _)
theorem kMs {σ : Nat → Nat} {L : LL} {c : Nat} {ro : Bool} : some (AObj.map (mV L) c ro) = some (AObj.map (erens σ (mV L)) c ro) := kM.symm
theorem cI {n : Nat} {S : Con → Prop} {last : CF Prop} {C : Con} {σ : Nat → Nat} {a : List V} (hS : S C) (m' : Mem) (K' : V → Mem → Prop) (h1 : ConAt C σ a m') (h2 : K' (V.ren (Con.tau C σ (Mem.next m')) (Con.ans C)) (Con.mem C σ m')) : lastC n S last (.func (.func n) [] []) a m' K' := conIn hS h1 h2
theorem cM {n g : Nat} {S : Con → Prop} {last : CF Prop} {C : Con} {σ : Nat → Nat} {a : List V} (h : Nat.beq g n = false) (k : ∀ (m' : Mem) (K' : V → Mem → Prop), ConAt C σ a m' → K' (V.ren (Con.tau C σ (Mem.next m')) (Con.ans C)) (Con.mem C σ m') → last (.func (.func g) [] []) a m' K') (m' : Mem) (K' : V → Mem → Prop) (h1 : ConAt C σ a m') (h2 : K' (V.ren (Con.tau C σ (Mem.next m')) (Con.ans C)) (Con.mem C σ m')) : lastC n S last (.func (.func g) [] []) a m' K' := conMiss h (k m' K' h1 h2)
def EqZ : List V → Prop
  | [] => True
  | v :: l => v = v ∧ EqZ l
theorem eqZ : ∀ l : List V, EqZ l
  | [] => trivial
  | _ :: l => ⟨rfl, eqZ l⟩
end Go.AM
