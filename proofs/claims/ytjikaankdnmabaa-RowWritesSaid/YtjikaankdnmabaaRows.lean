/-
  NARROWER THAN 'FOR EVERY INPUT', by the rows' own cells (each row's printed sentence says how): RowWrites: maps · RowReads: maps.
  DERIVED. THE GIVEN ROWS OF THIS SEAT. 5 by the template 'for every input the law returns true; each argument reads behind the call as it read before'; 0 by the template 'total and deterministic' (their statements: YtjikaankdnmabaaTotals.lean).
  GIVEN WITH THE SEED: the statements are not yours to turn. If you find one false, say at which input.
  Laid BY PROGRAM, IN A SANDBOX (cutbox-rows.mjs): the forced cells as the released guide's own fill.sh prints them over the translation 84972073358647d5… (all of the seat's roots in one cut). By AI agents, Wed Nov 11 2026. No macro, syntax, notation, axiom, sorry.
-/
import Derived.Test.YtjikaankdnmabaaChecked
import GoSem.Claim
import GoSem.ClaimJoined
import GoSem.ClaimMapViews
import Derived.JoinedTies
import Derived.KernelRfl
namespace Go.Proofs.Ytjikaankdnmabaa
/- THE CELL 'sum', in the pinned program and in every row, IS THE sha256 OF THE DUMP (.gsa) THAT YtjikaankdnmabaaProg.lean LOADS. Nothing in Lean hashes anything: it is a label: what it is worth is what the hold of that sum in a sandbox is worth. -/
noncomputable def Try.pinned : Pinned := { name := "ytjikaankdnmabaa", sum := "84972073358647d59c4aa10cb5c3d7c72c58d90ab0a70d0292b35f2edb6ec665", checked := Try.checked }
namespace Rows
def none {H : Type} : Left H := { results := [], args := [] }

/-- 'blockyardlaw22.RowWrites': WHATEVER THE INPUT: true; the input reads as it did. -/
def rowWritesSpec : ChangeSpec := { name := "rowWrites", fn := fun _ => fun
  | [d1, d2, d3, d4, d5] => { results := [.lit (.bool true)], args := [d1, d2, d3, d4, d5] }
  | _ => none }
def rowWritesRow : OpenClaim := { program := "ytjikaankdnmabaa", sum := "84972073358647d59c4aa10cb5c3d7c72c58d90ab0a70d0292b35f2edb6ec665", func := "blockyard/blockyardlaw22.RowWrites", spec := "rowWrites", unfollowed := true, recurses := true, maps := true, apart := false }
def RowWritesSaid : Prop := rowWritesRow.holds Try.pinned (OpenSpec.ofChange rowWritesSpec)

/-- ITS FALSE NEIGHBOUR: 'it returns false'. Refute it at one input. -/
def rowWritesWrong : ChangeSpec := { name := "rowWrites", fn := fun _ => fun
  | [d1, d2, d3, d4, d5] => { results := [.lit (.bool false)], args := [d1, d2, d3, d4, d5] }
  | _ => none }
def RowWritesWrongFalsely : Prop := rowWritesRow.holds Try.pinned (OpenSpec.ofChange rowWritesWrong)

/-- 'blockyardlaw22.RowFew': WHATEVER THE INPUT: true; the input reads as it did. -/
def rowFewSpec : ChangeSpec := { name := "rowFew", fn := fun _ => fun
  | [d1, d2, d3, d4] => { results := [.lit (.bool true)], args := [d1, d2, d3, d4] }
  | _ => none }
def rowFewRow : OpenClaim := { program := "ytjikaankdnmabaa", sum := "84972073358647d59c4aa10cb5c3d7c72c58d90ab0a70d0292b35f2edb6ec665", func := "blockyard/blockyardlaw22.RowFew", spec := "rowFew", unfollowed := true, recurses := true, apart := false }
def RowFewSaid : Prop := rowFewRow.holds Try.pinned (OpenSpec.ofChange rowFewSpec)

/-- ITS FALSE NEIGHBOUR: 'it returns false'. Refute it at one input. -/
def rowFewWrong : ChangeSpec := { name := "rowFew", fn := fun _ => fun
  | [d1, d2, d3, d4] => { results := [.lit (.bool false)], args := [d1, d2, d3, d4] }
  | _ => none }
def RowFewWrongFalsely : Prop := rowFewRow.holds Try.pinned (OpenSpec.ofChange rowFewWrong)

/-- 'blockyardlaw22.RowReads': WHATEVER THE INPUT: true; the input reads as it did. -/
def rowReadsSpec : ChangeSpec := { name := "rowReads", fn := fun _ => fun
  | [d1, d2, d3, d4, d5] => { results := [.lit (.bool true)], args := [d1, d2, d3, d4, d5] }
  | _ => none }
def rowReadsRow : OpenClaim := { program := "ytjikaankdnmabaa", sum := "84972073358647d59c4aa10cb5c3d7c72c58d90ab0a70d0292b35f2edb6ec665", func := "blockyard/blockyardlaw22.RowReads", spec := "rowReads", unfollowed := true, recurses := true, maps := true, apart := false }
def RowReadsSaid : Prop := rowReadsRow.holds Try.pinned (OpenSpec.ofChange rowReadsSpec)

/-- ITS FALSE NEIGHBOUR: 'it returns false'. Refute it at one input. -/
def rowReadsWrong : ChangeSpec := { name := "rowReads", fn := fun _ => fun
  | [d1, d2, d3, d4, d5] => { results := [.lit (.bool false)], args := [d1, d2, d3, d4, d5] }
  | _ => none }
def RowReadsWrongFalsely : Prop := rowReadsRow.holds Try.pinned (OpenSpec.ofChange rowReadsWrong)

/-- 'blockyardlaw22.RowRight': WHATEVER THE INPUT: true; the input reads as it did. -/
def rowRightSpec : ChangeSpec := { name := "rowRight", fn := fun _ => fun
  | [d1, d2, d3, d4, d5, d6] => { results := [.lit (.bool true)], args := [d1, d2, d3, d4, d5, d6] }
  | _ => none }
def rowRightRow : OpenClaim := { program := "ytjikaankdnmabaa", sum := "84972073358647d59c4aa10cb5c3d7c72c58d90ab0a70d0292b35f2edb6ec665", func := "blockyard/blockyardlaw22.RowRight", spec := "rowRight", unfollowed := true, recurses := true, apart := false }
def RowRightSaid : Prop := rowRightRow.holds Try.pinned (OpenSpec.ofChange rowRightSpec)

/-- ITS FALSE NEIGHBOUR: 'it returns false'. Refute it at one input. -/
def rowRightWrong : ChangeSpec := { name := "rowRight", fn := fun _ => fun
  | [d1, d2, d3, d4, d5, d6] => { results := [.lit (.bool false)], args := [d1, d2, d3, d4, d5, d6] }
  | _ => none }
def RowRightWrongFalsely : Prop := rowRightRow.holds Try.pinned (OpenSpec.ofChange rowRightWrong)

/-- 'blockyardlaw22.RowKnown': WHATEVER THE INPUT: true; the input reads as it did. -/
def rowKnownSpec : ChangeSpec := { name := "rowKnown", fn := fun _ => fun
  | [] => { results := [.lit (.bool true)], args := [] }
  | _ => none }
def rowKnownRow : OpenClaim := { program := "ytjikaankdnmabaa", sum := "84972073358647d59c4aa10cb5c3d7c72c58d90ab0a70d0292b35f2edb6ec665", func := "blockyard/blockyardlaw22.RowKnown", spec := "rowKnown", unfollowed := true, recurses := true, apart := false }
def RowKnownSaid : Prop := rowKnownRow.holds Try.pinned (OpenSpec.ofChange rowKnownSpec)

/-- ITS FALSE NEIGHBOUR: 'it returns false'. Refute it at one input. -/
def rowKnownWrong : ChangeSpec := { name := "rowKnown", fn := fun _ => fun
  | [] => { results := [.lit (.bool false)], args := [] }
  | _ => none }
def RowKnownWrongFalsely : Prop := rowKnownRow.holds Try.pinned (OpenSpec.ofChange rowKnownWrong)

/- THE SECOND FORM. 'bulk': how many values and letters a reading holds, each counted each time it is reached (what is shared counts as often as it is met; a slice's spare places count too). A statement '..UptoSaid' is the law's where the arguments, and the package variables that the reading takes, are together of bulk at most 1048576: NARROWER than '..Said'. Prove '..Said' where nothing that the law and all that it calls make is longer than what came in: it says more and counts as full. Else prove '..UptoSaid'. A law counts once. -/
mutual
def uptoBulk {H : Type} : DataW H → Nat
  | .lit (.string bytes) => bytes.length + 1
  | .lit _ => 1
  | .nil => 1
  | .ptr d => uptoBulk d + 1
  | .slice elems spare => uptoBulkAll elems + uptoBulkAll spare + 1
  | .agg parts => uptoBulkAll parts + 1
  | .iface _ d => uptoBulk d + 1
  | .map entries => uptoBulkEntries entries + 1
  | .held _ => 1
def uptoBulkAll {H : Type} : List (DataW H) → Nat
  | [] => 0
  | d :: r => uptoBulk d + uptoBulkAll r
def uptoBulkEntries {H : Type} : List (Lit × DataW H) → Nat
  | [] => 0
  | x :: r => uptoBulkEntry x + uptoBulkEntries r
def uptoBulkEntry {H : Type} : Lit × DataW H → Nat
  | (.string bytes, d) => bytes.length + uptoBulk d + 1
  | (_, d) => uptoBulk d + 1
 end
def uptoSmall : (H : Type) → List (DataW H) → Bool := fun _ ds => decide (uptoBulkAll ds ≤ 1048576)
def OpenSpec.upto (s : _root_.Go.ChangeSpec) : _root_.Go.OpenSpec := { _root_.Go.OpenSpec.ofChange s with cond := some uptoSmall }

/-- 'blockyardlaw22.RowWrites', WHERE WHAT IT READS IS OF BULK AT MOST 1048576: true; the input reads as it did. -/
def rowWritesUptoRow : OpenClaim := { program := "ytjikaankdnmabaa", sum := "84972073358647d59c4aa10cb5c3d7c72c58d90ab0a70d0292b35f2edb6ec665", func := "blockyard/blockyardlaw22.RowWrites", spec := "rowWrites", unfollowed := true, recurses := true, maps := true, apart := false, narrowed := true }
def RowWritesUptoSaid : Prop := rowWritesUptoRow.holds Try.pinned (OpenSpec.upto rowWritesSpec)

/-- 'blockyardlaw22.RowFew', WHERE WHAT IT READS IS OF BULK AT MOST 1048576: true; the input reads as it did. -/
def rowFewUptoRow : OpenClaim := { program := "ytjikaankdnmabaa", sum := "84972073358647d59c4aa10cb5c3d7c72c58d90ab0a70d0292b35f2edb6ec665", func := "blockyard/blockyardlaw22.RowFew", spec := "rowFew", unfollowed := true, recurses := true, apart := false, narrowed := true }
def RowFewUptoSaid : Prop := rowFewUptoRow.holds Try.pinned (OpenSpec.upto rowFewSpec)

/-- 'blockyardlaw22.RowReads', WHERE WHAT IT READS IS OF BULK AT MOST 1048576: true; the input reads as it did. -/
def rowReadsUptoRow : OpenClaim := { program := "ytjikaankdnmabaa", sum := "84972073358647d59c4aa10cb5c3d7c72c58d90ab0a70d0292b35f2edb6ec665", func := "blockyard/blockyardlaw22.RowReads", spec := "rowReads", unfollowed := true, recurses := true, maps := true, apart := false, narrowed := true }
def RowReadsUptoSaid : Prop := rowReadsUptoRow.holds Try.pinned (OpenSpec.upto rowReadsSpec)

/-- 'blockyardlaw22.RowRight', WHERE WHAT IT READS IS OF BULK AT MOST 1048576: true; the input reads as it did. -/
def rowRightUptoRow : OpenClaim := { program := "ytjikaankdnmabaa", sum := "84972073358647d59c4aa10cb5c3d7c72c58d90ab0a70d0292b35f2edb6ec665", func := "blockyard/blockyardlaw22.RowRight", spec := "rowRight", unfollowed := true, recurses := true, apart := false, narrowed := true }
def RowRightUptoSaid : Prop := rowRightUptoRow.holds Try.pinned (OpenSpec.upto rowRightSpec)

/-- 'blockyardlaw22.RowKnown', WHERE WHAT IT READS IS OF BULK AT MOST 1048576: true; the input reads as it did. -/
def rowKnownUptoRow : OpenClaim := { program := "ytjikaankdnmabaa", sum := "84972073358647d59c4aa10cb5c3d7c72c58d90ab0a70d0292b35f2edb6ec665", func := "blockyard/blockyardlaw22.RowKnown", spec := "rowKnown", unfollowed := true, recurses := true, apart := false, narrowed := true }
def RowKnownUptoSaid : Prop := rowKnownUptoRow.holds Try.pinned (OpenSpec.upto rowKnownSpec)

end Rows
end Go.Proofs.Ytjikaankdnmabaa
