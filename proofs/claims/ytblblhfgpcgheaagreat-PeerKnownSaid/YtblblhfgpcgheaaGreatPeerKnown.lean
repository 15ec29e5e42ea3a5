/- PeerKnown: for every input the law returns true and its arguments are as they were. No condition. -/
import Derived.Test.YtblblhfgpcgheaaGreatRows
import Derived.WalkKit
import Derived.ProofKit
import Derived.OpenShut
import Derived.ChangeMaps5
import Derived.Test.YtblblhfgpcgheaaGreatCodePeerKnown
import Derived.Test.YtblblhfgpcgheaaGreatAMR
import Derived.Test.YtblblhfgpcgheaaGreatShelfP
namespace Go.Proofs.YtblblhfgpcgheaaGreat.peerKnown
open Go Go.AM Go.ChangeShapes Go.WideShapes Go.ChangeAt Go.RowKit
set_option linter.unusedVariables false
set_option maxRecDepth 100000

theorem own : ownKnob Tryz.prog.godebug = none := by kernel_rfl
theorem laidOut : laidOutB Tryz.prog = true := by kernel_rfl
theorem rowed : mapsRowed Tryz.prog = true := by kernel_rfl
theorem sized : szB Tryz.prog = true := by kernel_rfl

open Go.Shelf in
theorem extra : Builder.Extra Tryz.prog Tryz.lays105_ren where
  sizeBuilder := by kernel_rfl
  liesBuilder := by kernel_rfl
  t5 := Tryz.lays105.t5
  a5 := Tryz.lays105.a5
  z5 := Tryz.lays105.z5
  v5 := Tryz.lays105.v5
  infoByte := by kernel_rfl
  cellsByte := by kernel_rfl
  sizeByte := by kernel_rfl
  neB5 := by decide
theorem fRep : Tryz.lays105_ren.f 105 = 29 := by kernel_rfl
theorem rep (s : ByteArray) (c : Nat) (w : World) (hc : c ≤ 9223372036854775807) (hl : s.size * c ≤ 140737488355328) :
    Calls Tryz.prog 29 #[.string s, .int .i64 c] w fun e w' => e = .returned (.string ⟨(Lib.repeatL s.data.toList c).toArray⟩) ∧ Go.RowKit.Below w.heap.size w w' := by
  have h := Any.strings_Repeat Tryz.lays105 extra s c w hc hl
  rw [fRep] at h
  exact h
def lastP : CF Bool := lastRep 29 lastF
theorem lastP_ok : CFOk Tryz.prog lastP (fun b => b = true) := lastRep_ok (callable_of Tryz.func29 (by kernel_rfl) (by kernel_rfl)) rep lastF_ok
def tabP : Nat → Option AFunc := without ft.get 29
theorem tabP_ok : TabOk Tryz.prog tabP := without_ok (FT.tabOk ftOk) 29
theorem run : callD boolAns tabP lastP 90 (.func (.func 4) [] []) [] ⟨0, .leaf⟩ endB = true := by kernel_rfl
theorem walk (w : World) : Calls Tryz.prog 4 #[] w fun e w' => e = .returned (.bool true) ∧ Stays w w' :=
  open_calls (d := 89) Tryz.checked.mixed tabP_ok lastP_ok (f := 4) (af := c4) rfl .nil run w

theorem lifted (os : Os) (started : os.Started) (H : Type) (enc : TypeId × Value → H) :
    ReturnsInHanded {} Tryz.checked os 4 .any (Rows.peerKnownSpec.pre6 enc Tryz.prog Tryz.f4 Rows.peerKnownRow.domain false) (Rows.peerKnownSpec.post enc Tryz.prog Tryz.f4 false true false false) := by
  refine law_lifted (C := Tryz.checked) (tb := 4) own started (by kernel_rfl) Tryz.func4
    (ChangeSpec.witness6 (enc := enc) (C := Tryz.checked) false ⟨#[], #[], []⟩ 8 (by kernel_rfl) (by kernel_rfl) (by kernel_rfl) (by kernel_rfl))
    laidOut rowed sized (by kernel_rfl) rfl Tryz.underlying4 rfl (fun ds h => match ds, h with | [], _ => ⟨rfl, rfl, rfl⟩) ?_
  intro W base args ds p hval0 hA0
  have hval : ∀ (j : Nat) t v, Tryz.f4.params[j]? = some t → args[j]? = some v → Value.okWide Tryz.prog W .any base t v := hval0
  have hA : DataW.TrodAll enc Tryz.prog W 0 (fun _ => true) true Tryz.f4.params.toList args.toList ds p := hA0
  clear hval0 hA0
  rw [Tryz.params4] at hA hval
  obtain ⟨e0, rfl, rfl⟩ := trodAll_nil hA
  have ha : args = #[] := by cases args; simp_all
  subst ha
  exact walk  W

theorem over : Rows.peerKnownRow.holds Tryz.pinned (OpenSpec.ofChange Rows.peerKnownSpec) :=
  OpenClaim.holds_of_wide 4 Tryz.f4 rfl rfl rfl rfl rfl rfl rfl ⟨rfl, rfl, rfl, rfl, rfl⟩ rfl rfl rfl rfl rfl (by kernel_rfl) Tryz.func4 (by kernel_rfl)
    (of_decide_eq_true (by kernel_rfl)) (by unfold Func.isWrapper; first | (rw [if_pos (by decide +kernel)]; kernel_rfl) | (rw [if_neg (by decide +kernel)]; exact ⟨rfl, rfl⟩))
    (fun os started H enc _ => lifted os started H enc)

/-- The statement. -/
theorem proved : Rows.PeerKnownSaid :=
  over
#print axioms proved
end Go.Proofs.YtblblhfgpcgheaaGreat.peerKnown
