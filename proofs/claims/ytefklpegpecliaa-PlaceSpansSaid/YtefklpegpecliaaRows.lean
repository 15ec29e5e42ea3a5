/-
  No cell of these rows narrows 'for every input' (looked for: loops, veiled, ifaces, maps, wideKeys, modest, calm, conditions, laid).
  DERIVED. THE GIVEN ROWS OF THIS SEAT. 7 by the template 'for every input the law returns true; each argument reads behind the call as it read before'; 0 by the template 'total and deterministic' (their statements: YtefklpegpecliaaTotals.lean).
  GIVEN WITH THE SEED: the statements are not yours to turn. If you find one false, say at which input.
  Laid BY PROGRAM, IN A SANDBOX (cutbox-rows.mjs): the forced cells as the released guide's own fill.sh prints them over the translation 9af1fcc7e2ab412a… (all of the seat's roots in one cut). By AI agents, Wed Nov 11 2026. No macro, syntax, notation, axiom, sorry.
-/
import Derived.Test.YtefklpegpecliaaChecked
import GoSem.Claim
import GoSem.ClaimJoined
import GoSem.ClaimMapViews
import Derived.JoinedTies
import Derived.KernelRfl
namespace Go.Proofs.Ytefklpegpecliaa
/- THE CELL 'sum', in the pinned program and in every row, IS THE sha256 OF THE DUMP (.gsa) THAT YtefklpegpecliaaProg.lean LOADS. Nothing in Lean hashes anything: it is a label: what it is worth is what the hold of that sum in a sandbox is worth. -/
noncomputable def Try.pinned : Pinned := { name := "ytefklpegpecliaa", sum := "9af1fcc7e2ab412aa80b8ce66e341e35ddf0fd2ab672a06c65793c14f8aba215", checked := Try.checked }
namespace Rows
def none {H : Type} : Left H := { results := [], args := [] }

/-- 'blockyardlaw17.PlaceLies': WHATEVER THE INPUT: true; the input reads as it did. -/
def placeLiesSpec : ChangeSpec := { name := "placeLies", fn := fun _ => fun
  | [d1, d2] => { results := [.lit (.bool true)], args := [d1, d2] }
  | _ => none }
def placeLiesRow : OpenClaim := { program := "ytefklpegpecliaa", sum := "9af1fcc7e2ab412aa80b8ce66e341e35ddf0fd2ab672a06c65793c14f8aba215", func := "blockyard/blockyardlaw17.PlaceLies", spec := "placeLies", plainKeys := false, apart := false }
def PlaceLiesSaid : Prop := placeLiesRow.holds Try.pinned (OpenSpec.ofChange placeLiesSpec)

/-- ITS FALSE NEIGHBOUR: 'it returns false'. Refute it at one input. -/
def placeLiesWrong : ChangeSpec := { name := "placeLies", fn := fun _ => fun
  | [d1, d2] => { results := [.lit (.bool false)], args := [d1, d2] }
  | _ => none }
def PlaceLiesWrongFalsely : Prop := placeLiesRow.holds Try.pinned (OpenSpec.ofChange placeLiesWrong)

/-- 'blockyardlaw17.PlaceRows': WHATEVER THE INPUT: true; the input reads as it did. -/
def placeRowsSpec : ChangeSpec := { name := "placeRows", fn := fun _ => fun
  | [d1, d2, d3] => { results := [.lit (.bool true)], args := [d1, d2, d3] }
  | _ => none }
def placeRowsRow : OpenClaim := { program := "ytefklpegpecliaa", sum := "9af1fcc7e2ab412aa80b8ce66e341e35ddf0fd2ab672a06c65793c14f8aba215", func := "blockyard/blockyardlaw17.PlaceRows", spec := "placeRows", plainKeys := false, apart := false }
def PlaceRowsSaid : Prop := placeRowsRow.holds Try.pinned (OpenSpec.ofChange placeRowsSpec)

/-- ITS FALSE NEIGHBOUR: 'it returns false'. Refute it at one input. -/
def placeRowsWrong : ChangeSpec := { name := "placeRows", fn := fun _ => fun
  | [d1, d2, d3] => { results := [.lit (.bool false)], args := [d1, d2, d3] }
  | _ => none }
def PlaceRowsWrongFalsely : Prop := placeRowsRow.holds Try.pinned (OpenSpec.ofChange placeRowsWrong)

/-- 'blockyardlaw17.PlaceBack': WHATEVER THE INPUT: true; the input reads as it did. -/
def placeBackSpec : ChangeSpec := { name := "placeBack", fn := fun _ => fun
  | [d1, d2, d3, d4] => { results := [.lit (.bool true)], args := [d1, d2, d3, d4] }
  | _ => none }
def placeBackRow : OpenClaim := { program := "ytefklpegpecliaa", sum := "9af1fcc7e2ab412aa80b8ce66e341e35ddf0fd2ab672a06c65793c14f8aba215", func := "blockyard/blockyardlaw17.PlaceBack", spec := "placeBack", plainKeys := false, apart := false }
def PlaceBackSaid : Prop := placeBackRow.holds Try.pinned (OpenSpec.ofChange placeBackSpec)

/-- ITS FALSE NEIGHBOUR: 'it returns false'. Refute it at one input. -/
def placeBackWrong : ChangeSpec := { name := "placeBack", fn := fun _ => fun
  | [d1, d2, d3, d4] => { results := [.lit (.bool false)], args := [d1, d2, d3, d4] }
  | _ => none }
def PlaceBackWrongFalsely : Prop := placeBackRow.holds Try.pinned (OpenSpec.ofChange placeBackWrong)

/-- 'blockyardlaw17.PlaceOnce': WHATEVER THE INPUT: true; the input reads as it did. -/
def placeOnceSpec : ChangeSpec := { name := "placeOnce", fn := fun _ => fun
  | [d] => { results := [.lit (.bool true)], args := [d] }
  | _ => none }
def placeOnceRow : OpenClaim := { program := "ytefklpegpecliaa", sum := "9af1fcc7e2ab412aa80b8ce66e341e35ddf0fd2ab672a06c65793c14f8aba215", func := "blockyard/blockyardlaw17.PlaceOnce", spec := "placeOnce", plainKeys := false, apart := false }
def PlaceOnceSaid : Prop := placeOnceRow.holds Try.pinned (OpenSpec.ofChange placeOnceSpec)

/-- ITS FALSE NEIGHBOUR: 'it returns false'. Refute it at one input. -/
def placeOnceWrong : ChangeSpec := { name := "placeOnce", fn := fun _ => fun
  | [d] => { results := [.lit (.bool false)], args := [d] }
  | _ => none }
def PlaceOnceWrongFalsely : Prop := placeOnceRow.holds Try.pinned (OpenSpec.ofChange placeOnceWrong)

/-- 'blockyardlaw17.PlaceTurns': WHATEVER THE INPUT: true; the input reads as it did. -/
def placeTurnsSpec : ChangeSpec := { name := "placeTurns", fn := fun _ => fun
  | [d1, d2, d3] => { results := [.lit (.bool true)], args := [d1, d2, d3] }
  | _ => none }
def placeTurnsRow : OpenClaim := { program := "ytefklpegpecliaa", sum := "9af1fcc7e2ab412aa80b8ce66e341e35ddf0fd2ab672a06c65793c14f8aba215", func := "blockyard/blockyardlaw17.PlaceTurns", spec := "placeTurns", plainKeys := false, apart := false }
def PlaceTurnsSaid : Prop := placeTurnsRow.holds Try.pinned (OpenSpec.ofChange placeTurnsSpec)

/-- ITS FALSE NEIGHBOUR: 'it returns false'. Refute it at one input. -/
def placeTurnsWrong : ChangeSpec := { name := "placeTurns", fn := fun _ => fun
  | [d1, d2, d3] => { results := [.lit (.bool false)], args := [d1, d2, d3] }
  | _ => none }
def PlaceTurnsWrongFalsely : Prop := placeTurnsRow.holds Try.pinned (OpenSpec.ofChange placeTurnsWrong)

/-- 'blockyardlaw17.PlaceSpans': WHATEVER THE INPUT: true; the input reads as it did. -/
def placeSpansSpec : ChangeSpec := { name := "placeSpans", fn := fun _ => fun
  | [d1, d2, d3] => { results := [.lit (.bool true)], args := [d1, d2, d3] }
  | _ => none }
def placeSpansRow : OpenClaim := { program := "ytefklpegpecliaa", sum := "9af1fcc7e2ab412aa80b8ce66e341e35ddf0fd2ab672a06c65793c14f8aba215", func := "blockyard/blockyardlaw17.PlaceSpans", spec := "placeSpans", recurses := true, plainKeys := false, apart := false }
def PlaceSpansSaid : Prop := placeSpansRow.holds Try.pinned (OpenSpec.ofChange placeSpansSpec)

/-- ITS FALSE NEIGHBOUR: 'it returns false'. Refute it at one input. -/
def placeSpansWrong : ChangeSpec := { name := "placeSpans", fn := fun _ => fun
  | [d1, d2, d3] => { results := [.lit (.bool false)], args := [d1, d2, d3] }
  | _ => none }
def PlaceSpansWrongFalsely : Prop := placeSpansRow.holds Try.pinned (OpenSpec.ofChange placeSpansWrong)

/-- 'blockyardlaw17.PlaceKnown': WHATEVER THE INPUT: true; the input reads as it did. -/
def placeKnownSpec : ChangeSpec := { name := "placeKnown", fn := fun _ => fun
  | [] => { results := [.lit (.bool true)], args := [] }
  | _ => none }
def placeKnownRow : OpenClaim := { program := "ytefklpegpecliaa", sum := "9af1fcc7e2ab412aa80b8ce66e341e35ddf0fd2ab672a06c65793c14f8aba215", func := "blockyard/blockyardlaw17.PlaceKnown", spec := "placeKnown", recurses := true, plainKeys := false, apart := false }
def PlaceKnownSaid : Prop := placeKnownRow.holds Try.pinned (OpenSpec.ofChange placeKnownSpec)

/-- ITS FALSE NEIGHBOUR: 'it returns false'. Refute it at one input. -/
def placeKnownWrong : ChangeSpec := { name := "placeKnown", fn := fun _ => fun
  | [] => { results := [.lit (.bool false)], args := [] }
  | _ => none }
def PlaceKnownWrongFalsely : Prop := placeKnownRow.holds Try.pinned (OpenSpec.ofChange placeKnownWrong)

/- THE SECOND FORM. 'bulk': how many values and letters a reading holds, each counted each time it is reached (what is shared counts as often as it is met; a slice's spare places count too). A statement '..UptoSaid' is the law's where the arguments, and the package variables that the reading takes, are together of bulk at most 1048576: NARROWER than '..Said'. Prove '..Said' where nothing that the law and all that it calls make is longer than what came in: it says more and counts as full. Else prove '..UptoSaid'. A law counts once. -/
mutual
def uptoBulk {H : Type} : DataW H → Nat
  | .lit (.string bytes) => bytes.length + 1
  | .lit _ => 1
  | .nil => 1
  | .ptr d => uptoBulk d + 1
  | .slice elems spare => uptoBulkAll elems + uptoBulkAll spare + 1
  | .agg parts => uptoBulkAll parts + 1
  | .iface _ d => uptoBulk d + 1
  | .map entries => uptoBulkEntries entries + 1
  | .held _ => 1
def uptoBulkAll {H : Type} : List (DataW H) → Nat
  | [] => 0
  | d :: r => uptoBulk d + uptoBulkAll r
def uptoBulkEntries {H : Type} : List (Lit × DataW H) → Nat
  | [] => 0
  | x :: r => uptoBulkEntry x + uptoBulkEntries r
def uptoBulkEntry {H : Type} : Lit × DataW H → Nat
  | (.string bytes, d) => bytes.length + uptoBulk d + 1
  | (_, d) => uptoBulk d + 1
 end
def uptoSmall : (H : Type) → List (DataW H) → Bool := fun _ ds => decide (uptoBulkAll ds ≤ 1048576)
def OpenSpec.upto (s : _root_.Go.ChangeSpec) : _root_.Go.OpenSpec := { _root_.Go.OpenSpec.ofChange s with cond := some uptoSmall }

/-- 'blockyardlaw17.PlaceLies', WHERE WHAT IT READS IS OF BULK AT MOST 1048576: true; the input reads as it did. -/
def placeLiesUptoRow : OpenClaim := { program := "ytefklpegpecliaa", sum := "9af1fcc7e2ab412aa80b8ce66e341e35ddf0fd2ab672a06c65793c14f8aba215", func := "blockyard/blockyardlaw17.PlaceLies", spec := "placeLies", plainKeys := false, apart := false, narrowed := true }
def PlaceLiesUptoSaid : Prop := placeLiesUptoRow.holds Try.pinned (OpenSpec.upto placeLiesSpec)

/-- 'blockyardlaw17.PlaceRows', WHERE WHAT IT READS IS OF BULK AT MOST 1048576: true; the input reads as it did. -/
def placeRowsUptoRow : OpenClaim := { program := "ytefklpegpecliaa", sum := "9af1fcc7e2ab412aa80b8ce66e341e35ddf0fd2ab672a06c65793c14f8aba215", func := "blockyard/blockyardlaw17.PlaceRows", spec := "placeRows", plainKeys := false, apart := false, narrowed := true }
def PlaceRowsUptoSaid : Prop := placeRowsUptoRow.holds Try.pinned (OpenSpec.upto placeRowsSpec)

/-- 'blockyardlaw17.PlaceBack', WHERE WHAT IT READS IS OF BULK AT MOST 1048576: true; the input reads as it did. -/
def placeBackUptoRow : OpenClaim := { program := "ytefklpegpecliaa", sum := "9af1fcc7e2ab412aa80b8ce66e341e35ddf0fd2ab672a06c65793c14f8aba215", func := "blockyard/blockyardlaw17.PlaceBack", spec := "placeBack", plainKeys := false, apart := false, narrowed := true }
def PlaceBackUptoSaid : Prop := placeBackUptoRow.holds Try.pinned (OpenSpec.upto placeBackSpec)

/-- 'blockyardlaw17.PlaceOnce', WHERE WHAT IT READS IS OF BULK AT MOST 1048576: true; the input reads as it did. -/
def placeOnceUptoRow : OpenClaim := { program := "ytefklpegpecliaa", sum := "9af1fcc7e2ab412aa80b8ce66e341e35ddf0fd2ab672a06c65793c14f8aba215", func := "blockyard/blockyardlaw17.PlaceOnce", spec := "placeOnce", plainKeys := false, apart := false, narrowed := true }
def PlaceOnceUptoSaid : Prop := placeOnceUptoRow.holds Try.pinned (OpenSpec.upto placeOnceSpec)

/-- 'blockyardlaw17.PlaceTurns', WHERE WHAT IT READS IS OF BULK AT MOST 1048576: true; the input reads as it did. -/
def placeTurnsUptoRow : OpenClaim := { program := "ytefklpegpecliaa", sum := "9af1fcc7e2ab412aa80b8ce66e341e35ddf0fd2ab672a06c65793c14f8aba215", func := "blockyard/blockyardlaw17.PlaceTurns", spec := "placeTurns", plainKeys := false, apart := false, narrowed := true }
def PlaceTurnsUptoSaid : Prop := placeTurnsUptoRow.holds Try.pinned (OpenSpec.upto placeTurnsSpec)

/-- 'blockyardlaw17.PlaceSpans', WHERE WHAT IT READS IS OF BULK AT MOST 1048576: true; the input reads as it did. -/
def placeSpansUptoRow : OpenClaim := { program := "ytefklpegpecliaa", sum := "9af1fcc7e2ab412aa80b8ce66e341e35ddf0fd2ab672a06c65793c14f8aba215", func := "blockyard/blockyardlaw17.PlaceSpans", spec := "placeSpans", recurses := true, plainKeys := false, apart := false, narrowed := true }
def PlaceSpansUptoSaid : Prop := placeSpansUptoRow.holds Try.pinned (OpenSpec.upto placeSpansSpec)

/-- 'blockyardlaw17.PlaceKnown', WHERE WHAT IT READS IS OF BULK AT MOST 1048576: true; the input reads as it did. -/
def placeKnownUptoRow : OpenClaim := { program := "ytefklpegpecliaa", sum := "9af1fcc7e2ab412aa80b8ce66e341e35ddf0fd2ab672a06c65793c14f8aba215", func := "blockyard/blockyardlaw17.PlaceKnown", spec := "placeKnown", recurses := true, plainKeys := false, apart := false, narrowed := true }
def PlaceKnownUptoSaid : Prop := placeKnownUptoRow.holds Try.pinned (OpenSpec.upto placeKnownSpec)

end Rows
end Go.Proofs.Ytefklpegpecliaa
