/- Requests and answers as they come: fed whole or in whatever pieces it is the same. No condition. -/
import Derived.Test.YtjekgdkaejgpdaaGreatCodePS
import Derived.Test.YtjekgdkaejgpdaaGreatAM49
namespace Go.Proofs.YtjekgdkaejgpdaaGreat
open Go Go.AM
set_option maxRecDepth 100000
set_option maxHeartbeats 4000000
set_option linter.unusedVariables false
set_option linter.unusedSectionVars false
structure Fly where
 (kind len off : Nat) (data : List Nat) (err : Nat)
abbrev Fl := List (Nat × Fly)
abbrev Reps := List (Nat × Nat × List Nat)
def beN (l : List Nat) : Nat := l.foldl (fun n b => n * 256 + b) 0
def bat (s : List Nat) (i n : Nat) : Nat := beN ((s.drop i).take n)
structure Cst where
 (over : Bool) (inb : List Nat) (fl : Fl) (rep : Reps)
def SameC (c d : Cst) : Prop := c.over = d.over ∧ c.fl = d.fl ∧ c.rep = d.rep ∧ (c.over = false → c.inb = d.inb)
theorem SameC.refl (c : Cst) : SameC c c := ⟨rfl, rfl, rfl, fun _ => rfl⟩
theorem SameC.trans {a b c : Cst} (h : SameC a b) (g : SameC b c) : SameC a c := ⟨h.1.trans g.1, h.2.1.trans g.2.1, h.2.2.1.trans g.2.2.1, fun e => (h.2.2.2 e).trans (g.2.2.2 (h.1 ▸ e))⟩
end Go.Proofs.YtjekgdkaejgpdaaGreat
