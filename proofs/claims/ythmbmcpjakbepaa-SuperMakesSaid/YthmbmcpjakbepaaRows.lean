/-
  No cell of these rows narrows 'for every input' (looked for: loops, veiled, ifaces, maps, wideKeys, modest, calm, conditions, laid).
  DERIVED. THE GIVEN ROWS OF THIS SEAT. 9 by the template 'for every input the law returns true; each argument reads behind the call as it read before'; 0 by the template 'total and deterministic' (their statements: YthmbmcpjakbepaaTotals.lean).
  GIVEN WITH THE SEED: the statements are not yours to turn. If you find one false, say at which input.
  Laid BY PROGRAM, IN A SANDBOX (cutbox-rows.mjs): the forced cells as the released guide's own fill.sh prints them over the translation 55810839cf3a28ab… (all of the seat's roots in one cut). By AI agents, Wed Nov 11 2026. No macro, syntax, notation, axiom, sorry.
-/
import Derived.Test.YthmbmcpjakbepaaChecked
import GoSem.Claim
import GoSem.ClaimJoined
import GoSem.ClaimMapViews
import Derived.JoinedTies
import Derived.KernelRfl
namespace Go.Proofs.Ythmbmcpjakbepaa
/- THE CELL 'sum', in the pinned program and in every row, IS THE sha256 OF THE DUMP (.gsa) THAT YthmbmcpjakbepaaProg.lean LOADS. Nothing in Lean hashes anything: it is a label: what it is worth is what the hold of that sum in a sandbox is worth. -/
noncomputable def Try.pinned : Pinned := { name := "ythmbmcpjakbepaa", sum := "55810839cf3a28ab33297005842bbda890aab6f017cdb3e405e6fa7fb59e3953", checked := Try.checked }
namespace Rows
def none {H : Type} : Left H := { results := [], args := [] }

/-- 'blockyardlaw19.SuperBytes': WHATEVER THE INPUT: true; the input reads as it did. -/
def superBytesSpec : ChangeSpec := { name := "superBytes", fn := fun _ => fun
  | [d] => { results := [.lit (.bool true)], args := [d] }
  | _ => none }
def superBytesRow : OpenClaim := { program := "ythmbmcpjakbepaa", sum := "55810839cf3a28ab33297005842bbda890aab6f017cdb3e405e6fa7fb59e3953", func := "blockyard/blockyardlaw19.SuperBytes", spec := "superBytes", plainKeys := false, apart := false }
def SuperBytesSaid : Prop := superBytesRow.holds Try.pinned (OpenSpec.ofChange superBytesSpec)

/-- ITS FALSE NEIGHBOUR: 'it returns false'. Refute it at one input. -/
def superBytesWrong : ChangeSpec := { name := "superBytes", fn := fun _ => fun
  | [d] => { results := [.lit (.bool false)], args := [d] }
  | _ => none }
def SuperBytesWrongFalsely : Prop := superBytesRow.holds Try.pinned (OpenSpec.ofChange superBytesWrong)

/-- 'blockyardlaw19.SuperReads': WHATEVER THE INPUT: true; the input reads as it did. -/
def superReadsSpec : ChangeSpec := { name := "superReads", fn := fun _ => fun
  | [d1, d2] => { results := [.lit (.bool true)], args := [d1, d2] }
  | _ => none }
def superReadsRow : OpenClaim := { program := "ythmbmcpjakbepaa", sum := "55810839cf3a28ab33297005842bbda890aab6f017cdb3e405e6fa7fb59e3953", func := "blockyard/blockyardlaw19.SuperReads", spec := "superReads", plainKeys := false, apart := false }
def SuperReadsSaid : Prop := superReadsRow.holds Try.pinned (OpenSpec.ofChange superReadsSpec)

/-- ITS FALSE NEIGHBOUR: 'it returns false'. Refute it at one input. -/
def superReadsWrong : ChangeSpec := { name := "superReads", fn := fun _ => fun
  | [d1, d2] => { results := [.lit (.bool false)], args := [d1, d2] }
  | _ => none }
def SuperReadsWrongFalsely : Prop := superReadsRow.holds Try.pinned (OpenSpec.ofChange superReadsWrong)

/-- 'blockyardlaw19.SuperBack': WHATEVER THE INPUT: true; the input reads as it did. -/
def superBackSpec : ChangeSpec := { name := "superBack", fn := fun _ => fun
  | [d1, d2] => { results := [.lit (.bool true)], args := [d1, d2] }
  | _ => none }
def superBackRow : OpenClaim := { program := "ythmbmcpjakbepaa", sum := "55810839cf3a28ab33297005842bbda890aab6f017cdb3e405e6fa7fb59e3953", func := "blockyard/blockyardlaw19.SuperBack", spec := "superBack", plainKeys := false, apart := false }
def SuperBackSaid : Prop := superBackRow.holds Try.pinned (OpenSpec.ofChange superBackSpec)

/-- ITS FALSE NEIGHBOUR: 'it returns false'. Refute it at one input. -/
def superBackWrong : ChangeSpec := { name := "superBack", fn := fun _ => fun
  | [d1, d2] => { results := [.lit (.bool false)], args := [d1, d2] }
  | _ => none }
def SuperBackWrongFalsely : Prop := superBackRow.holds Try.pinned (OpenSpec.ofChange superBackWrong)

/-- 'blockyardlaw19.SuperSpoilt': WHATEVER THE INPUT: true; the input reads as it did. -/
def superSpoiltSpec : ChangeSpec := { name := "superSpoilt", fn := fun _ => fun
  | [d1, d2, d3] => { results := [.lit (.bool true)], args := [d1, d2, d3] }
  | _ => none }
def superSpoiltRow : OpenClaim := { program := "ythmbmcpjakbepaa", sum := "55810839cf3a28ab33297005842bbda890aab6f017cdb3e405e6fa7fb59e3953", func := "blockyard/blockyardlaw19.SuperSpoilt", spec := "superSpoilt", plainKeys := false, apart := false }
def SuperSpoiltSaid : Prop := superSpoiltRow.holds Try.pinned (OpenSpec.ofChange superSpoiltSpec)

/-- ITS FALSE NEIGHBOUR: 'it returns false'. Refute it at one input. -/
def superSpoiltWrong : ChangeSpec := { name := "superSpoilt", fn := fun _ => fun
  | [d1, d2, d3] => { results := [.lit (.bool false)], args := [d1, d2, d3] }
  | _ => none }
def SuperSpoiltWrongFalsely : Prop := superSpoiltRow.holds Try.pinned (OpenSpec.ofChange superSpoiltWrong)

/-- 'blockyardlaw19.SuperTurns': WHATEVER THE INPUT: true; the input reads as it did. -/
def superTurnsSpec : ChangeSpec := { name := "superTurns", fn := fun _ => fun
  | [d1, d2, d3] => { results := [.lit (.bool true)], args := [d1, d2, d3] }
  | _ => none }
def superTurnsRow : OpenClaim := { program := "ythmbmcpjakbepaa", sum := "55810839cf3a28ab33297005842bbda890aab6f017cdb3e405e6fa7fb59e3953", func := "blockyard/blockyardlaw19.SuperTurns", spec := "superTurns", plainKeys := false, apart := false }
def SuperTurnsSaid : Prop := superTurnsRow.holds Try.pinned (OpenSpec.ofChange superTurnsSpec)

/-- ITS FALSE NEIGHBOUR: 'it returns false'. Refute it at one input. -/
def superTurnsWrong : ChangeSpec := { name := "superTurns", fn := fun _ => fun
  | [d1, d2, d3] => { results := [.lit (.bool false)], args := [d1, d2, d3] }
  | _ => none }
def SuperTurnsWrongFalsely : Prop := superTurnsRow.holds Try.pinned (OpenSpec.ofChange superTurnsWrong)

/-- 'blockyardlaw19.SuperIn': WHATEVER THE INPUT: true; the input reads as it did. -/
def superInSpec : ChangeSpec := { name := "superIn", fn := fun _ => fun
  | [d1, d2] => { results := [.lit (.bool true)], args := [d1, d2] }
  | _ => none }
def superInRow : OpenClaim := { program := "ythmbmcpjakbepaa", sum := "55810839cf3a28ab33297005842bbda890aab6f017cdb3e405e6fa7fb59e3953", func := "blockyard/blockyardlaw19.SuperIn", spec := "superIn", unfollowed := true, recurses := true, plainKeys := false, apart := false }
def SuperInSaid : Prop := superInRow.holds Try.pinned (OpenSpec.ofChange superInSpec)

/-- ITS FALSE NEIGHBOUR: 'it returns false'. Refute it at one input. -/
def superInWrong : ChangeSpec := { name := "superIn", fn := fun _ => fun
  | [d1, d2] => { results := [.lit (.bool false)], args := [d1, d2] }
  | _ => none }
def SuperInWrongFalsely : Prop := superInRow.holds Try.pinned (OpenSpec.ofChange superInWrong)

/-- 'blockyardlaw19.SuperMakes': WHATEVER THE INPUT: true; the input reads as it did. -/
def superMakesSpec : ChangeSpec := { name := "superMakes", fn := fun _ => fun
  | [d1, d2, d3, d4] => { results := [.lit (.bool true)], args := [d1, d2, d3, d4] }
  | _ => none }
def superMakesRow : OpenClaim := { program := "ythmbmcpjakbepaa", sum := "55810839cf3a28ab33297005842bbda890aab6f017cdb3e405e6fa7fb59e3953", func := "blockyard/blockyardlaw19.SuperMakes", spec := "superMakes", unfollowed := true, recurses := true, plainKeys := false, apart := false }
def SuperMakesSaid : Prop := superMakesRow.holds Try.pinned (OpenSpec.ofChange superMakesSpec)

/-- ITS FALSE NEIGHBOUR: 'it returns false'. Refute it at one input. -/
def superMakesWrong : ChangeSpec := { name := "superMakes", fn := fun _ => fun
  | [d1, d2, d3, d4] => { results := [.lit (.bool false)], args := [d1, d2, d3, d4] }
  | _ => none }
def SuperMakesWrongFalsely : Prop := superMakesRow.holds Try.pinned (OpenSpec.ofChange superMakesWrong)

/-- 'blockyardlaw19.SuperStale': WHATEVER THE INPUT: true; the input reads as it did. -/
def superStaleSpec : ChangeSpec := { name := "superStale", fn := fun _ => fun
  | [d1, d2, d3] => { results := [.lit (.bool true)], args := [d1, d2, d3] }
  | _ => none }
def superStaleRow : OpenClaim := { program := "ythmbmcpjakbepaa", sum := "55810839cf3a28ab33297005842bbda890aab6f017cdb3e405e6fa7fb59e3953", func := "blockyard/blockyardlaw19.SuperStale", spec := "superStale", unfollowed := true, recurses := true, plainKeys := false, apart := false }
def SuperStaleSaid : Prop := superStaleRow.holds Try.pinned (OpenSpec.ofChange superStaleSpec)

/-- ITS FALSE NEIGHBOUR: 'it returns false'. Refute it at one input. -/
def superStaleWrong : ChangeSpec := { name := "superStale", fn := fun _ => fun
  | [d1, d2, d3] => { results := [.lit (.bool false)], args := [d1, d2, d3] }
  | _ => none }
def SuperStaleWrongFalsely : Prop := superStaleRow.holds Try.pinned (OpenSpec.ofChange superStaleWrong)

/-- 'blockyardlaw19.SuperKnown': WHATEVER THE INPUT: true; the input reads as it did. -/
def superKnownSpec : ChangeSpec := { name := "superKnown", fn := fun _ => fun
  | [] => { results := [.lit (.bool true)], args := [] }
  | _ => none }
def superKnownRow : OpenClaim := { program := "ythmbmcpjakbepaa", sum := "55810839cf3a28ab33297005842bbda890aab6f017cdb3e405e6fa7fb59e3953", func := "blockyard/blockyardlaw19.SuperKnown", spec := "superKnown", unfollowed := true, recurses := true, plainKeys := false, apart := false }
def SuperKnownSaid : Prop := superKnownRow.holds Try.pinned (OpenSpec.ofChange superKnownSpec)

/-- ITS FALSE NEIGHBOUR: 'it returns false'. Refute it at one input. -/
def superKnownWrong : ChangeSpec := { name := "superKnown", fn := fun _ => fun
  | [] => { results := [.lit (.bool false)], args := [] }
  | _ => none }
def SuperKnownWrongFalsely : Prop := superKnownRow.holds Try.pinned (OpenSpec.ofChange superKnownWrong)

/- THE SECOND FORM. 'bulk': how many values and letters a reading holds, each counted each time it is reached (what is shared counts as often as it is met; a slice's spare places count too). A statement '..UptoSaid' is the law's where the arguments, and the package variables that the reading takes, are together of bulk at most 1048576: NARROWER than '..Said'. Prove '..Said' where nothing that the law and all that it calls make is longer than what came in: it says more and counts as full. Else prove '..UptoSaid'. A law counts once. -/
mutual
def uptoBulk {H : Type} : DataW H → Nat
  | .lit (.string bytes) => bytes.length + 1
  | .lit _ => 1
  | .nil => 1
  | .ptr d => uptoBulk d + 1
  | .slice elems spare => uptoBulkAll elems + uptoBulkAll spare + 1
  | .agg parts => uptoBulkAll parts + 1
  | .iface _ d => uptoBulk d + 1
  | .map entries => uptoBulkEntries entries + 1
  | .held _ => 1
def uptoBulkAll {H : Type} : List (DataW H) → Nat
  | [] => 0
  | d :: r => uptoBulk d + uptoBulkAll r
def uptoBulkEntries {H : Type} : List (Lit × DataW H) → Nat
  | [] => 0
  | x :: r => uptoBulkEntry x + uptoBulkEntries r
def uptoBulkEntry {H : Type} : Lit × DataW H → Nat
  | (.string bytes, d) => bytes.length + uptoBulk d + 1
  | (_, d) => uptoBulk d + 1
 end
def uptoSmall : (H : Type) → List (DataW H) → Bool := fun _ ds => decide (uptoBulkAll ds ≤ 1048576)
def OpenSpec.upto (s : _root_.Go.ChangeSpec) : _root_.Go.OpenSpec := { _root_.Go.OpenSpec.ofChange s with cond := some uptoSmall }

/-- 'blockyardlaw19.SuperBytes', WHERE WHAT IT READS IS OF BULK AT MOST 1048576: true; the input reads as it did. -/
def superBytesUptoRow : OpenClaim := { program := "ythmbmcpjakbepaa", sum := "55810839cf3a28ab33297005842bbda890aab6f017cdb3e405e6fa7fb59e3953", func := "blockyard/blockyardlaw19.SuperBytes", spec := "superBytes", plainKeys := false, apart := false, narrowed := true }
def SuperBytesUptoSaid : Prop := superBytesUptoRow.holds Try.pinned (OpenSpec.upto superBytesSpec)

/-- 'blockyardlaw19.SuperReads', WHERE WHAT IT READS IS OF BULK AT MOST 1048576: true; the input reads as it did. -/
def superReadsUptoRow : OpenClaim := { program := "ythmbmcpjakbepaa", sum := "55810839cf3a28ab33297005842bbda890aab6f017cdb3e405e6fa7fb59e3953", func := "blockyard/blockyardlaw19.SuperReads", spec := "superReads", plainKeys := false, apart := false, narrowed := true }
def SuperReadsUptoSaid : Prop := superReadsUptoRow.holds Try.pinned (OpenSpec.upto superReadsSpec)

/-- 'blockyardlaw19.SuperBack', WHERE WHAT IT READS IS OF BULK AT MOST 1048576: true; the input reads as it did. -/
def superBackUptoRow : OpenClaim := { program := "ythmbmcpjakbepaa", sum := "55810839cf3a28ab33297005842bbda890aab6f017cdb3e405e6fa7fb59e3953", func := "blockyard/blockyardlaw19.SuperBack", spec := "superBack", plainKeys := false, apart := false, narrowed := true }
def SuperBackUptoSaid : Prop := superBackUptoRow.holds Try.pinned (OpenSpec.upto superBackSpec)

/-- 'blockyardlaw19.SuperSpoilt', WHERE WHAT IT READS IS OF BULK AT MOST 1048576: true; the input reads as it did. -/
def superSpoiltUptoRow : OpenClaim := { program := "ythmbmcpjakbepaa", sum := "55810839cf3a28ab33297005842bbda890aab6f017cdb3e405e6fa7fb59e3953", func := "blockyard/blockyardlaw19.SuperSpoilt", spec := "superSpoilt", plainKeys := false, apart := false, narrowed := true }
def SuperSpoiltUptoSaid : Prop := superSpoiltUptoRow.holds Try.pinned (OpenSpec.upto superSpoiltSpec)

/-- 'blockyardlaw19.SuperTurns', WHERE WHAT IT READS IS OF BULK AT MOST 1048576: true; the input reads as it did. -/
def superTurnsUptoRow : OpenClaim := { program := "ythmbmcpjakbepaa", sum := "55810839cf3a28ab33297005842bbda890aab6f017cdb3e405e6fa7fb59e3953", func := "blockyard/blockyardlaw19.SuperTurns", spec := "superTurns", plainKeys := false, apart := false, narrowed := true }
def SuperTurnsUptoSaid : Prop := superTurnsUptoRow.holds Try.pinned (OpenSpec.upto superTurnsSpec)

/-- 'blockyardlaw19.SuperIn', WHERE WHAT IT READS IS OF BULK AT MOST 1048576: true; the input reads as it did. -/
def superInUptoRow : OpenClaim := { program := "ythmbmcpjakbepaa", sum := "55810839cf3a28ab33297005842bbda890aab6f017cdb3e405e6fa7fb59e3953", func := "blockyard/blockyardlaw19.SuperIn", spec := "superIn", unfollowed := true, recurses := true, plainKeys := false, apart := false, narrowed := true }
def SuperInUptoSaid : Prop := superInUptoRow.holds Try.pinned (OpenSpec.upto superInSpec)

/-- 'blockyardlaw19.SuperMakes', WHERE WHAT IT READS IS OF BULK AT MOST 1048576: true; the input reads as it did. -/
def superMakesUptoRow : OpenClaim := { program := "ythmbmcpjakbepaa", sum := "55810839cf3a28ab33297005842bbda890aab6f017cdb3e405e6fa7fb59e3953", func := "blockyard/blockyardlaw19.SuperMakes", spec := "superMakes", unfollowed := true, recurses := true, plainKeys := false, apart := false, narrowed := true }
def SuperMakesUptoSaid : Prop := superMakesUptoRow.holds Try.pinned (OpenSpec.upto superMakesSpec)

/-- 'blockyardlaw19.SuperStale', WHERE WHAT IT READS IS OF BULK AT MOST 1048576: true; the input reads as it did. -/
def superStaleUptoRow : OpenClaim := { program := "ythmbmcpjakbepaa", sum := "55810839cf3a28ab33297005842bbda890aab6f017cdb3e405e6fa7fb59e3953", func := "blockyard/blockyardlaw19.SuperStale", spec := "superStale", unfollowed := true, recurses := true, plainKeys := false, apart := false, narrowed := true }
def SuperStaleUptoSaid : Prop := superStaleUptoRow.holds Try.pinned (OpenSpec.upto superStaleSpec)

/-- 'blockyardlaw19.SuperKnown', WHERE WHAT IT READS IS OF BULK AT MOST 1048576: true; the input reads as it did. -/
def superKnownUptoRow : OpenClaim := { program := "ythmbmcpjakbepaa", sum := "55810839cf3a28ab33297005842bbda890aab6f017cdb3e405e6fa7fb59e3953", func := "blockyard/blockyardlaw19.SuperKnown", spec := "superKnown", unfollowed := true, recurses := true, plainKeys := false, apart := false, narrowed := true }
def SuperKnownUptoSaid : Prop := superKnownUptoRow.holds Try.pinned (OpenSpec.upto superKnownSpec)

end Rows
end Go.Proofs.Ythmbmcpjakbepaa
