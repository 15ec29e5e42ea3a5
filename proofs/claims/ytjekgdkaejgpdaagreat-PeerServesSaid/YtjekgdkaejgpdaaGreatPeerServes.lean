/- PeerServes: for every input the law returns true and its arguments are as they were. No condition. -/
import Derived.Test.YtjekgdkaejgpdaaGreatRows
import Derived.WalkKit
import Derived.ProofKit
import Derived.OpenShut
import Derived.ChangeMaps5
import Derived.Test.YtjekgdkaejgpdaaGreatCodePS
import Derived.Test.YtjekgdkaejgpdaaGreatUJ
import Derived.Test.YtjekgdkaejgpdaaGreatShelfP
namespace Go.Proofs.YtjekgdkaejgpdaaGreat.peerServes
open Go Go.AM Go.ChangeShapes Go.WideShapes Go.ChangeAt Go.RowKit
set_option linter.unusedVariables false
set_option maxRecDepth 100000
theorem own : ownKnob Tryz.prog.godebug = none := by kernel_rfl
theorem laidOut : laidOutB Tryz.prog = true := by kernel_rfl
theorem rowed : mapsRowed Tryz.prog = true := by kernel_rfl
theorem sized : szB Tryz.prog = true := by kernel_rfl
theorem oks : Oks Tryz.prog := ⟨ok5, ok7, ok8, ok9, ok12, ok13, ok15, ok16, ok17, ok18, ok19, ok20, ok21, ok27, ok30, ok35, ok36, ok37, ok38, ok39, ok43, ok44, ok45, ok48, ok60, ok61, ok62, ok63, ok66, ok67, ok68, ok69, ok72, ok76, ok85, ok86, ok87, ok88, ok89, ok90, ok91, ok92, ok95, ok96, ok97, ok100, ok101, ok102, ok103, ok107, ok108, ok109, ok110⟩
theorem rep (s : ByteArray) (c : Nat) (w : World) (hc : c ≤ 9223372036854775807) (hl : s.size * c ≤ 140737488355328) :
    Calls Tryz.prog 25 #[.string s, .int .i64 c] w fun e w' => e = .returned (.string ⟨(Lib.repeatL s.data.toList c).toArray⟩) ∧ Go.RowKit.Below w.heap.size w w' := Tryz.strings_Repeat s c w hc hl
theorem join (bk o c : Nat) (xs : List ByteArray) (sep : ByteArray) (w : World) (h1 : ∀ (j : Nat) x, xs[j]? = some x → w.cell? ⟨bk, o + j, none⟩ = some (.string x)) (h2 : bk < w.heap.size) (h3 : xs.length ≤ 140737488355328) (h4 : xs.length ≤ c) (h5 : (Lib.join (xs.map (·.data.toList)) sep.data.toList).length ≤ 140737488355328) :
    Calls Tryz.prog 14 #[.slice (some ⟨bk, o, none⟩) xs.length c, .string sep] w fun e w' => e = .returned (.string ⟨(Lib.join (xs.map (·.data.toList)) sep.data.toList).toArray⟩) ∧ Go.RowKit.Below w.heap.size w w' := Tryz.strings_Join bk o c xs sep w h1 h2 h3 h4 h5
theorem known : Known2 Tryz.prog := known2_of Tryz.checked.mixed oks (FT.tabOk ftOk) ok3 ok4 (zFl Tryz.func25 (by kernel_rfl) (by kernel_rfl)) rep (zFl Tryz.func14 (by kernel_rfl) (by kernel_rfl)) join
theorem cells37 : Tryz.prog.cellsOf 37 = [CK.int .u16].length := by kernel_rfl
theorem elem37 : CellsK Tryz.prog 37 [.int .u16] := cellsK_int Tryz.underlying37
theorem cells5 : Tryz.prog.cellsOf 5 = [CK.int .u8].length := by kernel_rfl
theorem elem5 : CellsK Tryz.prog 5 [.int .u8] := cellsK_int Tryz.underlying5
theorem walk (st : Bool) (v1 : Value) {w : World} (h1 : zG6 w [.int .u16] v1) (v2 : Value) (h2 : zG6 w [.int .u8] v2) : Calls Tryz.prog 3 #[.bool st, v1, v2] w fun e w' => e = .returned (.bool true) ∧ zCd w w' :=
  law_calls known st h1 h2
theorem lifted (os : Os) (started : os.Started) (H : Type) (enc : TypeId × Value → H) :
    ReturnsInHanded {} Tryz.checked os 3 .any (Rows.peerServesSpec.pre6 enc Tryz.prog Tryz.f3 Rows.peerServesRow.domain false) (Rows.peerServesSpec.post enc Tryz.prog Tryz.f3 false true false false) := by
  refine law_lifted (C := Tryz.checked) (tb := 4) own started (by kernel_rfl) Tryz.func3
    (ChangeSpec.witness6 (enc := enc) (C := Tryz.checked) false ⟨#[], #[.bool false, .slice none 0 0, .slice none 0 0], []⟩ 8 (by kernel_rfl) (by kernel_rfl) (by kernel_rfl) (by kernel_rfl))
    laidOut rowed sized (by kernel_rfl) rfl Tryz.underlying4 rfl (fun ds h => match ds, h with | [_, _, _], _ => ⟨rfl, rfl, rfl⟩) ?_
  intro W base args ds p hval0 hA0
  have hval : ∀ (j : Nat) t v, Tryz.f3.params[j]? = some t → args[j]? = some v → Value.okWide Tryz.prog W .any base t v := hval0
  have hA : DataW.TrodAll enc Tryz.prog W 0 (fun _ => true) true Tryz.f3.params.toList args.toList ds p := hA0
  clear hval0 hA0
  rw [Tryz.params3] at hA hval
  obtain ⟨v0, vs0, d0, ds0, p0, q0, e0, rfl, rfl, h0, hA⟩ := trodAll_cons hA
  obtain ⟨v1, vs1, d1, ds1, p1, q1, e1, rfl, rfl, h1, hA⟩ := trodAll_cons hA
  obtain ⟨v2, vs2, d2, ds2, p2, q2, e2, rfl, rfl, h2, hA⟩ := trodAll_cons hA
  obtain ⟨e3, rfl, rfl⟩ := trodAll_nil hA
  subst e3
  subst e2
  subst e1
  have ha : args = #[v0, v1, v2] := by cases args; simp_all
  subst ha
  obtain ⟨n0, rfl, -, -⟩ := open_bool Tryz.underlying4 (hval 0 4 v0 rfl rfl) h0
  have m1 := open_sliceK Tryz.underlying22 cells37 (by decide) elem37 (hval 1 22 v1 rfl rfl) h1
  have m2 := open_sliceK Tryz.underlying23 cells5 (by decide) elem5 (hval 2 23 v2 rfl rfl) h2
  exact walk n0 v1 m1 v2 m2
theorem over : Rows.peerServesRow.holds Tryz.pinned (OpenSpec.ofChange Rows.peerServesSpec) :=
  OpenClaim.holds_of_wide 3 Tryz.f3 rfl rfl rfl rfl rfl rfl rfl ⟨rfl, rfl, rfl, rfl, rfl⟩ rfl rfl rfl rfl rfl (by kernel_rfl) Tryz.func3 (by kernel_rfl)
    (of_decide_eq_true (by kernel_rfl)) (by unfold Func.isWrapper; first | (rw [if_pos (by decide +kernel)]; kernel_rfl) | (rw [if_neg (by decide +kernel)]; exact ⟨rfl, rfl⟩))
    (fun os started H enc _ => lifted os started H enc)
theorem proved : Rows.PeerServesSaid :=
  over
#print axioms proved
end Go.Proofs.YtjekgdkaejgpdaaGreat.peerServes
