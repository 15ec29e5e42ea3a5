/- PeerPieces: for every input the law returns true and its arguments are as they were. No condition. -/
import Derived.Test.YtblblhfgpcgheaaRows
import Derived.WalkKit
import Derived.ProofKit
import Derived.OpenShut
import Derived.ChangeMaps5
import Derived.Test.YtblblhfgpcgheaaCodePP
import Derived.Test.YtblblhfgpcgheaaUJ
import Derived.Test.YtblblhfgpcgheaaAMR
import Derived.Test.YtblblhfgpcgheaaShelfP
namespace Go.Proofs.Ytblblhfgpcgheaa.peerPieces
open Go Go.AM Go.ChangeShapes Go.WideShapes Go.ChangeAt Go.RowKit
set_option linter.unusedVariables false
set_option maxRecDepth 100000
theorem own : ownKnob Try.prog.godebug = none := by kernel_rfl
theorem laidOut : laidOutB Try.prog = true := by kernel_rfl
theorem rowed : mapsRowed Try.prog = true := by kernel_rfl
theorem sized : szB Try.prog = true := by kernel_rfl
open Go.Shelf in
theorem extra : Builder.Extra Try.prog Try.lays105_ren where
  sizeBuilder := by kernel_rfl
  liesBuilder := by kernel_rfl
  t5 := Try.lays105.t5
  a5 := Try.lays105.a5
  z5 := Try.lays105.z5
  v5 := Try.lays105.v5
  infoByte := by kernel_rfl
  cellsByte := by kernel_rfl
  sizeByte := by kernel_rfl
  neB5 := by decide
theorem fRep : Try.lays105_ren.f 105 = 18 := by kernel_rfl
theorem rep (s : ByteArray) (c : Nat) (w : World) (hc : c ≤ 9223372036854775807) (hl : s.size * c ≤ 140737488355328) :
    Calls Try.prog 18 #[.string s, .int .i64 c] w fun e w' => e = .returned (.string ⟨(Lib.repeatL s.data.toList c).toArray⟩) ∧ Go.RowKit.Below w.heap.size w w' := by
  have h := Any.strings_Repeat Try.lays105 extra s c w hc hl
  rw [fRep] at h
  exact h
def lastP : CF Bool := lastRep 18 lastF
theorem lastP_ok : LastOk Try.prog lastP (fun b => b = true) := lastRep_ok (callable_of Try.func18 (by kernel_rfl) (by kernel_rfl)) rep lastF_ok
theorem awakeRun : callD boolAns (without ft.get 18) lastP 60 Ys.none (.func (.func 4) [] []) [] ⟨0, .leaf⟩ endB = true := by kernel_rfl
theorem awakeCalls (w : World) : Calls Try.prog 4 #[] w fun e w' => e = .returned (.bool true) ∧ Stays w w' :=
  open_calls (d := 59) Try.checked.mixed (without_ok (FT.tabOk ftOk) 18) lastP_ok (f := 4) (af := c4) rfl .nil awakeRun w
theorem known : Known Try.prog := ⟨Try.checked.mixed, FT.tabOk ftOk, ok5, ok6, ok7, ok8, ok9, ok10, ok11, ok12, ok13, ok14, ok15, ok16, ok17, ok19, ok20, ok21, ok24, ok25, ok26, ok28, ok33, ok35, ok39, ok40, ok41, ok42, ok43, ok46, ok51, ok52, ok53, ok54, ok55, ok56, ok57, ok58, ok59, ok62, ok63, ok3, fun h => lastW_ok ok4 awakeCalls h⟩
theorem cells5 : Try.prog.cellsOf 5 = u8K.length := by kernel_rfl
theorem elem5 : CellsK Try.prog 5 u8K := cellsK_int Try.underlying5
theorem cells31 : Try.prog.cellsOf 31 = actK.length := by kernel_rfl
theorem elem31 : CellsK Try.prog 31 actK := cellsK_struct Try.underlying31 (by kernel_rfl) fun j k hj => by
  match j, hj with
  | 0, hj => cases hj; exact ⟨_, rfl, rfl, by kernel_rfl, cellsK_int Try.underlying3⟩
  | 1, hj => cases hj; exact ⟨_, rfl, rfl, by kernel_rfl, cellsK_int Try.underlying27⟩
  | 2, hj => cases hj; exact ⟨_, rfl, rfl, by kernel_rfl, cellsK_int Try.underlying27⟩
  | 3, hj => cases hj; exact ⟨_, rfl, rfl, by kernel_rfl, cellsK_int Try.underlying27⟩
  | 4, hj => cases hj; exact ⟨_, rfl, rfl, by kernel_rfl, cellsK_int Try.underlying27⟩
  | 5, hj => cases hj; exact ⟨_, rfl, rfl, by kernel_rfl, cellsK_int Try.underlying28⟩
  | 6, hj => cases hj; exact ⟨_, rfl, rfl, by kernel_rfl, cellsK_int Try.underlying29⟩
  | 7, hj => cases hj; exact ⟨_, rfl, rfl, by kernel_rfl, cellsK_int Try.underlying29⟩
  | 8, hj => cases hj; exact ⟨_, rfl, rfl, by kernel_rfl, cellsK_str Try.underlying9⟩
  | 9, hj => cases hj; exact ⟨_, rfl, rfl, by kernel_rfl, cellsK_int Try.underlying3⟩
theorem walk (st : Bool) (v1 : Value) {w : World} (h1 : IsSliceK w actK v1) (v2 : Value) (h2 : IsSliceK w actK v2) (v3 : Value) (h3 : IsSliceK w u8K v3) : Calls Try.prog 3 #[.bool st, v1, v2, v3] w fun e w' => e = .returned (.bool true) ∧ Stays w w' :=
  law_calls known st h1 h2 h3
theorem lifted (os : Os) (started : os.Started) (H : Type) (enc : TypeId × Value → H) :
    ReturnsInHanded {} Try.checked os 3 .any (Rows.peerPiecesSpec.pre6 enc Try.prog Try.f3 Rows.peerPiecesRow.domain false) (Rows.peerPiecesSpec.post enc Try.prog Try.f3 false true false false) := by
  refine law_lifted (C := Try.checked) (tb := 4) own started (by kernel_rfl) Try.func3
    (ChangeSpec.witness6 (enc := enc) (C := Try.checked) false ⟨#[], #[.bool false, .slice none 0 0, .slice none 0 0, .slice none 0 0], []⟩ 8 (by kernel_rfl) (by kernel_rfl) (by kernel_rfl) (by kernel_rfl))
    laidOut rowed sized (by kernel_rfl) rfl Try.underlying4 rfl (fun ds h => match ds, h with | [_, _, _, _], _ => ⟨rfl, rfl, rfl⟩) ?_
  intro W base args ds p hval0 hA0
  have hval : ∀ (j : Nat) t v, Try.f3.params[j]? = some t → args[j]? = some v → Value.okWide Try.prog W .any base t v := hval0
  have hA : DataW.TrodAll enc Try.prog W 0 (fun _ => true) true Try.f3.params.toList args.toList ds p := hA0
  clear hval0 hA0
  rw [Try.params3] at hA hval
  obtain ⟨v0, vs0, d0, ds0, p0, q0, e0, rfl, rfl, h0, hA⟩ := trodAll_cons hA
  obtain ⟨v1, vs1, d1, ds1, p1, q1, e1, rfl, rfl, h1, hA⟩ := trodAll_cons hA
  obtain ⟨v2, vs2, d2, ds2, p2, q2, e2, rfl, rfl, h2, hA⟩ := trodAll_cons hA
  obtain ⟨v3, vs3, d3, ds3, p3, q3, e3, rfl, rfl, h3, hA⟩ := trodAll_cons hA
  obtain ⟨e4, rfl, rfl⟩ := trodAll_nil hA
  subst e4
  subst e3
  subst e2
  subst e1
  have ha : args = #[v0, v1, v2, v3] := by cases args; simp_all
  subst ha
  obtain ⟨n0, rfl, -, -⟩ := open_bool Try.underlying4 (hval 0 4 v0 rfl rfl) h0
  have m1 := open_sliceK Try.underlying22 cells31 (by decide) elem31 (hval 1 22 v1 rfl rfl) h1
  have m2 := open_sliceK Try.underlying22 cells31 (by decide) elem31 (hval 2 22 v2 rfl rfl) h2
  have m3 := open_sliceK Try.underlying23 cells5 (by decide) elem5 (hval 3 23 v3 rfl rfl) h3
  exact walk n0 v1 m1 v2 m2 v3 m3
theorem over : Rows.peerPiecesRow.holds Try.pinned (OpenSpec.ofChange Rows.peerPiecesSpec) :=
  OpenClaim.holds_of_wide 3 Try.f3 rfl rfl rfl rfl rfl rfl rfl ⟨rfl, rfl, rfl, rfl, rfl⟩ rfl rfl rfl rfl rfl (by kernel_rfl) Try.func3 (by kernel_rfl)
    (of_decide_eq_true (by kernel_rfl)) (by unfold Func.isWrapper; first | (rw [if_pos (by decide +kernel)]; kernel_rfl) | (rw [if_neg (by decide +kernel)]; exact ⟨rfl, rfl⟩))
    (fun os started H enc _ => lifted os started H enc)
theorem proved : Rows.PeerPiecesSaid :=
  over
#print axioms proved
end Go.Proofs.Ytblblhfgpcgheaa.peerPieces
