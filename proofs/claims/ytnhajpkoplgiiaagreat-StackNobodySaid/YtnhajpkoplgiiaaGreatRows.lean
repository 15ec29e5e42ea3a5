/-
  No cell of these rows narrows 'for every input' (looked for: loops, veiled, ifaces, maps, wideKeys, modest, calm, conditions, laid).
  DERIVED. THE GIVEN ROWS OF THIS SEAT. 5 by the template 'for every input the law returns true; each argument reads behind the call as it read before'; 0 by the template 'total and deterministic' (their statements: YtnhajpkoplgiiaaGreatTotals.lean).
  GIVEN WITH THE SEED: the statements are not yours to turn. If you find one false, say at which input.
  Laid BY PROGRAM, IN A SANDBOX (cutbox-rows.mjs): the forced cells as the released guide's own fill.sh prints them over the translation b5e76e06f94d02c3… (all of the seat's roots in one cut). By AI agents, Wed Nov 11 2026. No macro, syntax, notation, axiom, sorry.
-/
import Derived.Test.YtnhajpkoplgiiaaGreatChecked
import GoSem.Claim
import GoSem.ClaimJoined
import GoSem.ClaimMapViews
import Derived.JoinedTies
import Derived.KernelRfl
namespace Go.Proofs.YtnhajpkoplgiiaaGreat
/- THE CELL 'sum', in the pinned program and in every row, IS THE sha256 OF THE DUMP (.gsa) THAT YtnhajpkoplgiiaaGreatProg.lean LOADS. Nothing in Lean hashes anything: it is a label: what it is worth is what the hold of that sum in a sandbox is worth. -/
noncomputable def Tryz.pinned : Pinned := { name := "ytnhajpkoplgiiaagreat", sum := "b5e76e06f94d02c361d918e8007081bc8c5c34c74ac589cba6aa8444a4c4fa29", checked := Tryz.checked }
namespace Rows
def none {H : Type} : Left H := { results := [], args := [] }

/-- 'blockyardlaw16.StackKnown': WHATEVER THE INPUT: true; the input reads as it did. -/
def stackKnownSpec : ChangeSpec := { name := "stackKnown", fn := fun _ => fun
  | [] => { results := [.lit (.bool true)], args := [] }
  | _ => none }
def stackKnownRow : OpenClaim := { program := "ytnhajpkoplgiiaagreat", sum := "b5e76e06f94d02c361d918e8007081bc8c5c34c74ac589cba6aa8444a4c4fa29", func := "blockyard/blockyardlaw16.StackKnown", spec := "stackKnown", unfollowed := true, recurses := true, apart := false }
def StackKnownSaid : Prop := stackKnownRow.holds Tryz.pinned (OpenSpec.ofChange stackKnownSpec)

/-- ITS FALSE NEIGHBOUR: 'it returns false'. Refute it at one input. -/
def stackKnownWrong : ChangeSpec := { name := "stackKnown", fn := fun _ => fun
  | [] => { results := [.lit (.bool false)], args := [] }
  | _ => none }
def StackKnownWrongFalsely : Prop := stackKnownRow.holds Tryz.pinned (OpenSpec.ofChange stackKnownWrong)

/-- 'blockyardlaw16.StackQuiet': WHATEVER THE INPUT: true; the input reads as it did. -/
def stackQuietSpec : ChangeSpec := { name := "stackQuiet", fn := fun _ => fun
  | [d1, d2] => { results := [.lit (.bool true)], args := [d1, d2] }
  | _ => none }
def stackQuietRow : OpenClaim := { program := "ytnhajpkoplgiiaagreat", sum := "b5e76e06f94d02c361d918e8007081bc8c5c34c74ac589cba6aa8444a4c4fa29", func := "blockyard/blockyardlaw16.StackQuiet", spec := "stackQuiet", unfollowed := true, recurses := true, apart := false }
def StackQuietSaid : Prop := stackQuietRow.holds Tryz.pinned (OpenSpec.ofChange stackQuietSpec)

/-- ITS FALSE NEIGHBOUR: 'it returns false'. Refute it at one input. -/
def stackQuietWrong : ChangeSpec := { name := "stackQuiet", fn := fun _ => fun
  | [d1, d2] => { results := [.lit (.bool false)], args := [d1, d2] }
  | _ => none }
def StackQuietWrongFalsely : Prop := stackQuietRow.holds Tryz.pinned (OpenSpec.ofChange stackQuietWrong)

/-- 'blockyardlaw16.StackRoom': WHATEVER THE INPUT: true; the input reads as it did. -/
def stackRoomSpec : ChangeSpec := { name := "stackRoom", fn := fun _ => fun
  | [d] => { results := [.lit (.bool true)], args := [d] }
  | _ => none }
def stackRoomRow : OpenClaim := { program := "ytnhajpkoplgiiaagreat", sum := "b5e76e06f94d02c361d918e8007081bc8c5c34c74ac589cba6aa8444a4c4fa29", func := "blockyard/blockyardlaw16.StackRoom", spec := "stackRoom", unfollowed := true, recurses := true, apart := false }
def StackRoomSaid : Prop := stackRoomRow.holds Tryz.pinned (OpenSpec.ofChange stackRoomSpec)

/-- ITS FALSE NEIGHBOUR: 'it returns false'. Refute it at one input. -/
def stackRoomWrong : ChangeSpec := { name := "stackRoom", fn := fun _ => fun
  | [d] => { results := [.lit (.bool false)], args := [d] }
  | _ => none }
def StackRoomWrongFalsely : Prop := stackRoomRow.holds Tryz.pinned (OpenSpec.ofChange stackRoomWrong)

/-- 'blockyardlaw16.StackPlays': WHATEVER THE INPUT: true; the input reads as it did. -/
def stackPlaysSpec : ChangeSpec := { name := "stackPlays", fn := fun _ => fun
  | [d1, d2, d3, d4] => { results := [.lit (.bool true)], args := [d1, d2, d3, d4] }
  | _ => none }
def stackPlaysRow : OpenClaim := { program := "ytnhajpkoplgiiaagreat", sum := "b5e76e06f94d02c361d918e8007081bc8c5c34c74ac589cba6aa8444a4c4fa29", func := "blockyard/blockyardlaw16.StackPlays", spec := "stackPlays", unfollowed := true, recurses := true, apart := false }
def StackPlaysSaid : Prop := stackPlaysRow.holds Tryz.pinned (OpenSpec.ofChange stackPlaysSpec)

/-- ITS FALSE NEIGHBOUR: 'it returns false'. Refute it at one input. -/
def stackPlaysWrong : ChangeSpec := { name := "stackPlays", fn := fun _ => fun
  | [d1, d2, d3, d4] => { results := [.lit (.bool false)], args := [d1, d2, d3, d4] }
  | _ => none }
def StackPlaysWrongFalsely : Prop := stackPlaysRow.holds Tryz.pinned (OpenSpec.ofChange stackPlaysWrong)

/-- 'blockyardlaw16.StackNobody': WHATEVER THE INPUT: true; the input reads as it did. -/
def stackNobodySpec : ChangeSpec := { name := "stackNobody", fn := fun _ => fun
  | [d1, d2, d3] => { results := [.lit (.bool true)], args := [d1, d2, d3] }
  | _ => none }
def stackNobodyRow : OpenClaim := { program := "ytnhajpkoplgiiaagreat", sum := "b5e76e06f94d02c361d918e8007081bc8c5c34c74ac589cba6aa8444a4c4fa29", func := "blockyard/blockyardlaw16.StackNobody", spec := "stackNobody", unfollowed := true, recurses := true, apart := false }
def StackNobodySaid : Prop := stackNobodyRow.holds Tryz.pinned (OpenSpec.ofChange stackNobodySpec)

/-- ITS FALSE NEIGHBOUR: 'it returns false'. Refute it at one input. -/
def stackNobodyWrong : ChangeSpec := { name := "stackNobody", fn := fun _ => fun
  | [d1, d2, d3] => { results := [.lit (.bool false)], args := [d1, d2, d3] }
  | _ => none }
def StackNobodyWrongFalsely : Prop := stackNobodyRow.holds Tryz.pinned (OpenSpec.ofChange stackNobodyWrong)

/- THE SECOND FORM. 'bulk': how many values and letters a reading holds, each counted each time it is reached (what is shared counts as often as it is met; a slice's spare places count too). A statement '..UptoSaid' is the law's where the arguments, and the package variables that the reading takes, are together of bulk at most 1048576: NARROWER than '..Said'. Prove '..Said' where nothing that the law and all that it calls make is longer than what came in: it says more and counts as full. Else prove '..UptoSaid'. A law counts once. -/
mutual
def uptoBulk {H : Type} : DataW H → Nat
  | .lit (.string bytes) => bytes.length + 1
  | .lit _ => 1
  | .nil => 1
  | .ptr d => uptoBulk d + 1
  | .slice elems spare => uptoBulkAll elems + uptoBulkAll spare + 1
  | .agg parts => uptoBulkAll parts + 1
  | .iface _ d => uptoBulk d + 1
  | .map entries => uptoBulkEntries entries + 1
  | .held _ => 1
def uptoBulkAll {H : Type} : List (DataW H) → Nat
  | [] => 0
  | d :: r => uptoBulk d + uptoBulkAll r
def uptoBulkEntries {H : Type} : List (Lit × DataW H) → Nat
  | [] => 0
  | x :: r => uptoBulkEntry x + uptoBulkEntries r
def uptoBulkEntry {H : Type} : Lit × DataW H → Nat
  | (.string bytes, d) => bytes.length + uptoBulk d + 1
  | (_, d) => uptoBulk d + 1
 end
def uptoSmall : (H : Type) → List (DataW H) → Bool := fun _ ds => decide (uptoBulkAll ds ≤ 1048576)
def OpenSpec.upto (s : _root_.Go.ChangeSpec) : _root_.Go.OpenSpec := { _root_.Go.OpenSpec.ofChange s with cond := some uptoSmall }

/-- 'blockyardlaw16.StackKnown', WHERE WHAT IT READS IS OF BULK AT MOST 1048576: true; the input reads as it did. -/
def stackKnownUptoRow : OpenClaim := { program := "ytnhajpkoplgiiaagreat", sum := "b5e76e06f94d02c361d918e8007081bc8c5c34c74ac589cba6aa8444a4c4fa29", func := "blockyard/blockyardlaw16.StackKnown", spec := "stackKnown", unfollowed := true, recurses := true, apart := false, narrowed := true }
def StackKnownUptoSaid : Prop := stackKnownUptoRow.holds Tryz.pinned (OpenSpec.upto stackKnownSpec)

/-- 'blockyardlaw16.StackQuiet', WHERE WHAT IT READS IS OF BULK AT MOST 1048576: true; the input reads as it did. -/
def stackQuietUptoRow : OpenClaim := { program := "ytnhajpkoplgiiaagreat", sum := "b5e76e06f94d02c361d918e8007081bc8c5c34c74ac589cba6aa8444a4c4fa29", func := "blockyard/blockyardlaw16.StackQuiet", spec := "stackQuiet", unfollowed := true, recurses := true, apart := false, narrowed := true }
def StackQuietUptoSaid : Prop := stackQuietUptoRow.holds Tryz.pinned (OpenSpec.upto stackQuietSpec)

/-- 'blockyardlaw16.StackRoom', WHERE WHAT IT READS IS OF BULK AT MOST 1048576: true; the input reads as it did. -/
def stackRoomUptoRow : OpenClaim := { program := "ytnhajpkoplgiiaagreat", sum := "b5e76e06f94d02c361d918e8007081bc8c5c34c74ac589cba6aa8444a4c4fa29", func := "blockyard/blockyardlaw16.StackRoom", spec := "stackRoom", unfollowed := true, recurses := true, apart := false, narrowed := true }
def StackRoomUptoSaid : Prop := stackRoomUptoRow.holds Tryz.pinned (OpenSpec.upto stackRoomSpec)

/-- 'blockyardlaw16.StackPlays', WHERE WHAT IT READS IS OF BULK AT MOST 1048576: true; the input reads as it did. -/
def stackPlaysUptoRow : OpenClaim := { program := "ytnhajpkoplgiiaagreat", sum := "b5e76e06f94d02c361d918e8007081bc8c5c34c74ac589cba6aa8444a4c4fa29", func := "blockyard/blockyardlaw16.StackPlays", spec := "stackPlays", unfollowed := true, recurses := true, apart := false, narrowed := true }
def StackPlaysUptoSaid : Prop := stackPlaysUptoRow.holds Tryz.pinned (OpenSpec.upto stackPlaysSpec)

/-- 'blockyardlaw16.StackNobody', WHERE WHAT IT READS IS OF BULK AT MOST 1048576: true; the input reads as it did. -/
def stackNobodyUptoRow : OpenClaim := { program := "ytnhajpkoplgiiaagreat", sum := "b5e76e06f94d02c361d918e8007081bc8c5c34c74ac589cba6aa8444a4c4fa29", func := "blockyard/blockyardlaw16.StackNobody", spec := "stackNobody", unfollowed := true, recurses := true, apart := false, narrowed := true }
def StackNobodyUptoSaid : Prop := stackNobodyUptoRow.holds Tryz.pinned (OpenSpec.upto stackNobodySpec)

end Rows
end Go.Proofs.YtnhajpkoplgiiaaGreat
