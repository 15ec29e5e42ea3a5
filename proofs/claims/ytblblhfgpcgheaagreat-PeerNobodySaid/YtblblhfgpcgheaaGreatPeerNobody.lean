/- PeerNobody: for every input the law returns true and its arguments are as they were. No condition. -/
import Derived.Test.YtblblhfgpcgheaaGreatRows
import Derived.WalkKit
import Derived.ProofKit
import Derived.OpenShut
import Derived.ChangeMaps5
import Derived.Test.YtblblhfgpcgheaaGreatCodePeerNobody
import Derived.Test.YtblblhfgpcgheaaGreatAMR
import Derived.Test.YtblblhfgpcgheaaGreatShelfP
namespace Go.Proofs.YtblblhfgpcgheaaGreat.peerNobody
open Go Go.AM Go.ChangeShapes Go.WideShapes Go.ChangeAt Go.RowKit
set_option linter.unusedVariables false
set_option maxRecDepth 100000

theorem own : ownKnob Tryz.prog.godebug = none := by kernel_rfl
theorem laidOut : laidOutB Tryz.prog = true := by kernel_rfl
theorem rowed : mapsRowed Tryz.prog = true := by kernel_rfl
theorem sized : szB Tryz.prog = true := by kernel_rfl

open Go.Shelf in
theorem extra : Builder.Extra Tryz.prog Tryz.lays105_ren where
  sizeBuilder := by kernel_rfl
  liesBuilder := by kernel_rfl
  t5 := Tryz.lays105.t5
  a5 := Tryz.lays105.a5
  z5 := Tryz.lays105.z5
  v5 := Tryz.lays105.v5
  infoByte := by kernel_rfl
  cellsByte := by kernel_rfl
  sizeByte := by kernel_rfl
  neB5 := by decide
theorem fRep : Tryz.lays105_ren.f 105 = 29 := by kernel_rfl
theorem rep (s : ByteArray) (c : Nat) (w : World) (hc : c ≤ 9223372036854775807) (hl : s.size * c ≤ 140737488355328) :
    Calls Tryz.prog 29 #[.string s, .int .i64 c] w fun e w' => e = .returned (.string ⟨(Lib.repeatL s.data.toList c).toArray⟩) ∧ Go.RowKit.Below w.heap.size w w' := by
  have h := Any.strings_Repeat Tryz.lays105 extra s c w hc hl
  rw [fRep] at h
  exact h
def lastP : CF Bool := lastRep 29 lastF
theorem lastP_ok : CFOk Tryz.prog lastP (fun b => b = true) := lastRep_ok (callable_of Tryz.func29 (by kernel_rfl) (by kernel_rfl)) rep lastF_ok
def tabP : Nat → Option AFunc := without ft.get 29
theorem tabP_ok : TabOk Tryz.prog tabP := without_ok (FT.tabOk ftOk) 29
/-- The law's own examples come out right. -/
theorem awakeRun : callD boolAns tabP lastP 90 (.func (.func 7) [] []) [] ⟨0, .leaf⟩ endB = true := by kernel_rfl
theorem awakeCalls (w : World) : Calls Tryz.prog 7 #[] w fun e w' => e = .returned (.bool true) ∧ Stays w w' :=
  open_calls (d := 89) Tryz.checked.mixed tabP_ok lastP_ok (f := 7) (af := c7) rfl .nil awakeRun w
theorem run (s : List Nat) (n : Int) : callD boolAns (without tabP 7) (lastW 7 lastP) 60 (.func (.func 5) [] []) [.str s, .int .u32 n] ⟨0, .leaf⟩ endB = (bif ltI 2000 (.ofNat s.length) then true else true) := by kernel_rfl
theorem walk (s : ByteArray) (n : Int) (w : World) : Calls Tryz.prog 5 #[.string s, .int .u32 n] w fun e w' => e = .returned (.bool true) ∧ Stays w w' :=
  open_calls (d := 59) Tryz.checked.mixed (without_ok tabP_ok 7) (lastW_ok ok7 awakeCalls lastP_ok) (f := 5) (af := c5) rfl (.cons (.str _) (.cons (.int _ _) .nil)) (by rw [run]; cases ltI 2000 (.ofNat (bytesOf s).length) <;> rfl) w

theorem lifted (os : Os) (started : os.Started) (H : Type) (enc : TypeId × Value → H) :
    ReturnsInHanded {} Tryz.checked os 5 .any (Rows.peerNobodySpec.pre6 enc Tryz.prog Tryz.f5 Rows.peerNobodyRow.domain false) (Rows.peerNobodySpec.post enc Tryz.prog Tryz.f5 false true false false) := by
  refine law_lifted (C := Tryz.checked) (tb := 4) own started (by kernel_rfl) Tryz.func5
    (ChangeSpec.witness6 (enc := enc) (C := Tryz.checked) false ⟨#[], #[.string ⟨#[]⟩, .int .u32 0], []⟩ 8 (by kernel_rfl) (by kernel_rfl) (by kernel_rfl) (by kernel_rfl))
    laidOut rowed sized (by kernel_rfl) rfl Tryz.underlying4 rfl (fun ds h => match ds, h with | [_, _], _ => ⟨rfl, rfl, rfl⟩) ?_
  intro W base args ds p hval0 hA0
  have hval : ∀ (j : Nat) t v, Tryz.f5.params[j]? = some t → args[j]? = some v → Value.okWide Tryz.prog W .any base t v := hval0
  have hA : DataW.TrodAll enc Tryz.prog W 0 (fun _ => true) true Tryz.f5.params.toList args.toList ds p := hA0
  clear hval0 hA0
  rw [Tryz.params5] at hA hval
  obtain ⟨v0, vs0, d0, ds0, p0, q0, e0, rfl, rfl, h0, hA⟩ := trodAll_cons hA
  obtain ⟨v1, vs1, d1, ds1, p1, q1, e1, rfl, rfl, h1, hA⟩ := trodAll_cons hA
  obtain ⟨e2, rfl, rfl⟩ := trodAll_nil hA
  subst e2
  subst e1
  have ha : args = #[v0, v1] := by cases args; simp_all
  subst ha
  obtain ⟨n0, rfl, -, -, w0⟩ := Go.ChangeMaps.open_string Tryz.underlying9 (hval 0 9 v0 rfl rfl) h0
  obtain ⟨n1, rfl, -, -, w1⟩ := open_int Tryz.underlying38 (hval 1 38 v1 rfl rfl) h1
  exact walk n0 n1 W

theorem over : Rows.peerNobodyRow.holds Tryz.pinned (OpenSpec.ofChange Rows.peerNobodySpec) :=
  OpenClaim.holds_of_wide 5 Tryz.f5 rfl rfl rfl rfl rfl rfl rfl ⟨rfl, rfl, rfl, rfl, rfl⟩ rfl rfl rfl rfl rfl (by kernel_rfl) Tryz.func5 (by kernel_rfl)
    (of_decide_eq_true (by kernel_rfl)) (by unfold Func.isWrapper; first | (rw [if_pos (by decide +kernel)]; kernel_rfl) | (rw [if_neg (by decide +kernel)]; exact ⟨rfl, rfl⟩))
    (fun os started H enc _ => lifted os started H enc)

/-- The statement. -/
theorem proved : Rows.PeerNobodySaid :=
  over
#print axioms proved
end Go.Proofs.YtblblhfgpcgheaaGreat.peerNobody
