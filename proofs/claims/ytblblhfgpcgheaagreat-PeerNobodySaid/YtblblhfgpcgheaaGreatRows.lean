/-
  No cell of these rows narrows 'for every input' (looked for: loops, veiled, ifaces, maps, wideKeys, modest, calm, conditions, laid).
  DERIVED. THE GIVEN ROWS OF THIS SEAT. 4 by the template 'for every input the law returns true; each argument reads behind the call as it read before'; 0 by the template 'total and deterministic' (their statements: YtblblhfgpcgheaaGreatTotals.lean).
  GIVEN WITH THE SEED: the statements are not yours to turn. If you find one false, say at which input.
  Laid BY PROGRAM, IN A SANDBOX (cutbox-rows.mjs): the forced cells as the released guide's own fill.sh prints them over the translation 336a59b4eb3299de… (all of the seat's roots in one cut). By AI agents, Wed Nov 11 2026. No macro, syntax, notation, axiom, sorry.
-/
import Derived.Test.YtblblhfgpcgheaaGreatChecked
import GoSem.Claim
import GoSem.ClaimJoined
import GoSem.ClaimMapViews
import Derived.JoinedTies
import Derived.KernelRfl
namespace Go.Proofs.YtblblhfgpcgheaaGreat
/- THE CELL 'sum', in the pinned program and in every row, IS THE sha256 OF THE DUMP (.gsa) THAT YtblblhfgpcgheaaGreatProg.lean LOADS. Nothing in Lean hashes anything: it is a label: what it is worth is what the hold of that sum in a sandbox is worth. -/
noncomputable def Tryz.pinned : Pinned := { name := "ytblblhfgpcgheaagreat", sum := "336a59b4eb3299de8ab49d3bcfe08608ccfba9a9e73017be2b00a189da80e4dd", checked := Tryz.checked }
namespace Rows
def none {H : Type} : Left H := { results := [], args := [] }

/-- 'blockyardlaw28.PeerServes': WHATEVER THE INPUT: true; the input reads as it did. -/
def peerServesSpec : ChangeSpec := { name := "peerServes", fn := fun _ => fun
  | [d1, d2, d3] => { results := [.lit (.bool true)], args := [d1, d2, d3] }
  | _ => none }
def peerServesRow : OpenClaim := { program := "ytblblhfgpcgheaagreat", sum := "336a59b4eb3299de8ab49d3bcfe08608ccfba9a9e73017be2b00a189da80e4dd", func := "blockyard/blockyardlaw28.PeerServes", spec := "peerServes", inPlace := ["internal/abi.NoEscape", "internal/bytealg.MakeNoZero"], unfollowed := true, recurses := true, apart := false }
def PeerServesSaid : Prop := peerServesRow.holds Tryz.pinned (OpenSpec.ofChange peerServesSpec)

/-- ITS FALSE NEIGHBOUR: 'it returns false'. Refute it at one input. -/
def peerServesWrong : ChangeSpec := { name := "peerServes", fn := fun _ => fun
  | [d1, d2, d3] => { results := [.lit (.bool false)], args := [d1, d2, d3] }
  | _ => none }
def PeerServesWrongFalsely : Prop := peerServesRow.holds Tryz.pinned (OpenSpec.ofChange peerServesWrong)

/-- 'blockyardlaw28.PeerKnown': WHATEVER THE INPUT: true; the input reads as it did. -/
def peerKnownSpec : ChangeSpec := { name := "peerKnown", fn := fun _ => fun
  | [] => { results := [.lit (.bool true)], args := [] }
  | _ => none }
def peerKnownRow : OpenClaim := { program := "ytblblhfgpcgheaagreat", sum := "336a59b4eb3299de8ab49d3bcfe08608ccfba9a9e73017be2b00a189da80e4dd", func := "blockyard/blockyardlaw28.PeerKnown", spec := "peerKnown", inPlace := ["internal/abi.NoEscape", "internal/bytealg.MakeNoZero"], unfollowed := true, recurses := true, apart := false }
def PeerKnownSaid : Prop := peerKnownRow.holds Tryz.pinned (OpenSpec.ofChange peerKnownSpec)

/-- ITS FALSE NEIGHBOUR: 'it returns false'. Refute it at one input. -/
def peerKnownWrong : ChangeSpec := { name := "peerKnown", fn := fun _ => fun
  | [] => { results := [.lit (.bool false)], args := [] }
  | _ => none }
def PeerKnownWrongFalsely : Prop := peerKnownRow.holds Tryz.pinned (OpenSpec.ofChange peerKnownWrong)

/-- 'blockyardlaw28.PeerNobody': WHATEVER THE INPUT: true; the input reads as it did. -/
def peerNobodySpec : ChangeSpec := { name := "peerNobody", fn := fun _ => fun
  | [d1, d2] => { results := [.lit (.bool true)], args := [d1, d2] }
  | _ => none }
def peerNobodyRow : OpenClaim := { program := "ytblblhfgpcgheaagreat", sum := "336a59b4eb3299de8ab49d3bcfe08608ccfba9a9e73017be2b00a189da80e4dd", func := "blockyard/blockyardlaw28.PeerNobody", spec := "peerNobody", inPlace := ["internal/abi.NoEscape", "internal/bytealg.MakeNoZero"], unfollowed := true, recurses := true, apart := false }
def PeerNobodySaid : Prop := peerNobodyRow.holds Tryz.pinned (OpenSpec.ofChange peerNobodySpec)

/-- ITS FALSE NEIGHBOUR: 'it returns false'. Refute it at one input. -/
def peerNobodyWrong : ChangeSpec := { name := "peerNobody", fn := fun _ => fun
  | [d1, d2] => { results := [.lit (.bool false)], args := [d1, d2] }
  | _ => none }
def PeerNobodyWrongFalsely : Prop := peerNobodyRow.holds Tryz.pinned (OpenSpec.ofChange peerNobodyWrong)

/-- 'blockyardlaw28.PeerBrings': WHATEVER THE INPUT: true; the input reads as it did. -/
def peerBringsSpec : ChangeSpec := { name := "peerBrings", fn := fun _ => fun
  | [d1, d2, d3, d4, d5] => { results := [.lit (.bool true)], args := [d1, d2, d3, d4, d5] }
  | _ => none }
def peerBringsRow : OpenClaim := { program := "ytblblhfgpcgheaagreat", sum := "336a59b4eb3299de8ab49d3bcfe08608ccfba9a9e73017be2b00a189da80e4dd", func := "blockyard/blockyardlaw28.PeerBrings", spec := "peerBrings", inPlace := ["internal/abi.NoEscape", "internal/bytealg.MakeNoZero"], unfollowed := true, recurses := true, apart := false }
def PeerBringsSaid : Prop := peerBringsRow.holds Tryz.pinned (OpenSpec.ofChange peerBringsSpec)

/-- ITS FALSE NEIGHBOUR: 'it returns false'. Refute it at one input. -/
def peerBringsWrong : ChangeSpec := { name := "peerBrings", fn := fun _ => fun
  | [d1, d2, d3, d4, d5] => { results := [.lit (.bool false)], args := [d1, d2, d3, d4, d5] }
  | _ => none }
def PeerBringsWrongFalsely : Prop := peerBringsRow.holds Tryz.pinned (OpenSpec.ofChange peerBringsWrong)

/- THE SECOND FORM. 'bulk': how many values and letters a reading holds, each counted each time it is reached (what is shared counts as often as it is met; a slice's spare places count too). A statement '..UptoSaid' is the law's where the arguments, and the package variables that the reading takes, are together of bulk at most 1048576: NARROWER than '..Said'. Prove '..Said' where nothing that the law and all that it calls make is longer than what came in: it says more and counts as full. Else prove '..UptoSaid'. A law counts once. -/
mutual
def uptoBulk {H : Type} : DataW H → Nat
  | .lit (.string bytes) => bytes.length + 1
  | .lit _ => 1
  | .nil => 1
  | .ptr d => uptoBulk d + 1
  | .slice elems spare => uptoBulkAll elems + uptoBulkAll spare + 1
  | .agg parts => uptoBulkAll parts + 1
  | .iface _ d => uptoBulk d + 1
  | .map entries => uptoBulkEntries entries + 1
  | .held _ => 1
def uptoBulkAll {H : Type} : List (DataW H) → Nat
  | [] => 0
  | d :: r => uptoBulk d + uptoBulkAll r
def uptoBulkEntries {H : Type} : List (Lit × DataW H) → Nat
  | [] => 0
  | x :: r => uptoBulkEntry x + uptoBulkEntries r
def uptoBulkEntry {H : Type} : Lit × DataW H → Nat
  | (.string bytes, d) => bytes.length + uptoBulk d + 1
  | (_, d) => uptoBulk d + 1
 end
def uptoSmall : (H : Type) → List (DataW H) → Bool := fun _ ds => decide (uptoBulkAll ds ≤ 1048576)
def OpenSpec.upto (s : _root_.Go.ChangeSpec) : _root_.Go.OpenSpec := { _root_.Go.OpenSpec.ofChange s with cond := some uptoSmall }

/-- 'blockyardlaw28.PeerServes', WHERE WHAT IT READS IS OF BULK AT MOST 1048576: true; the input reads as it did. -/
def peerServesUptoRow : OpenClaim := { program := "ytblblhfgpcgheaagreat", sum := "336a59b4eb3299de8ab49d3bcfe08608ccfba9a9e73017be2b00a189da80e4dd", func := "blockyard/blockyardlaw28.PeerServes", spec := "peerServes", inPlace := ["internal/abi.NoEscape", "internal/bytealg.MakeNoZero"], unfollowed := true, recurses := true, apart := false, narrowed := true }
def PeerServesUptoSaid : Prop := peerServesUptoRow.holds Tryz.pinned (OpenSpec.upto peerServesSpec)

/-- 'blockyardlaw28.PeerKnown', WHERE WHAT IT READS IS OF BULK AT MOST 1048576: true; the input reads as it did. -/
def peerKnownUptoRow : OpenClaim := { program := "ytblblhfgpcgheaagreat", sum := "336a59b4eb3299de8ab49d3bcfe08608ccfba9a9e73017be2b00a189da80e4dd", func := "blockyard/blockyardlaw28.PeerKnown", spec := "peerKnown", inPlace := ["internal/abi.NoEscape", "internal/bytealg.MakeNoZero"], unfollowed := true, recurses := true, apart := false, narrowed := true }
def PeerKnownUptoSaid : Prop := peerKnownUptoRow.holds Tryz.pinned (OpenSpec.upto peerKnownSpec)

/-- 'blockyardlaw28.PeerNobody', WHERE WHAT IT READS IS OF BULK AT MOST 1048576: true; the input reads as it did. -/
def peerNobodyUptoRow : OpenClaim := { program := "ytblblhfgpcgheaagreat", sum := "336a59b4eb3299de8ab49d3bcfe08608ccfba9a9e73017be2b00a189da80e4dd", func := "blockyard/blockyardlaw28.PeerNobody", spec := "peerNobody", inPlace := ["internal/abi.NoEscape", "internal/bytealg.MakeNoZero"], unfollowed := true, recurses := true, apart := false, narrowed := true }
def PeerNobodyUptoSaid : Prop := peerNobodyUptoRow.holds Tryz.pinned (OpenSpec.upto peerNobodySpec)

/-- 'blockyardlaw28.PeerBrings', WHERE WHAT IT READS IS OF BULK AT MOST 1048576: true; the input reads as it did. -/
def peerBringsUptoRow : OpenClaim := { program := "ytblblhfgpcgheaagreat", sum := "336a59b4eb3299de8ab49d3bcfe08608ccfba9a9e73017be2b00a189da80e4dd", func := "blockyard/blockyardlaw28.PeerBrings", spec := "peerBrings", inPlace := ["internal/abi.NoEscape", "internal/bytealg.MakeNoZero"], unfollowed := true, recurses := true, apart := false, narrowed := true }
def PeerBringsUptoSaid : Prop := peerBringsUptoRow.holds Tryz.pinned (OpenSpec.upto peerBringsSpec)

end Rows
end Go.Proofs.YtblblhfgpcgheaaGreat
