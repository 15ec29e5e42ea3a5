/- StackNobody: for every input the law returns true and its arguments are as they were. No condition. -/
import Derived.Test.YtnhajpkoplgiiaaGreatRows
import Derived.WalkKit
import Derived.ProofKit
import Derived.OpenShut
import Derived.ChangeMaps5
import Derived.Test.YtnhajpkoplgiiaaGreatCodeStackNobody
namespace Go.Proofs.YtnhajpkoplgiiaaGreat.stackNobody
open Go Go.AM Go.ChangeShapes Go.WideShapes Go.ChangeAt Go.RowKit
set_option linter.unusedVariables false
set_option maxRecDepth 100000

theorem own : ownKnob Tryz.prog.godebug = none := by kernel_rfl
theorem laidOut : laidOutB Tryz.prog = true := by kernel_rfl
theorem rowed : mapsRowed Tryz.prog = true := by kernel_rfl
theorem sized : szB Tryz.prog = true := by kernel_rfl

/-- The law's own examples come out right. -/
theorem awakeRun : callD boolAns ft.get lastF 60 (.func (.func 22) [] []) [] ⟨0, .leaf⟩ endB = true := by kernel_rfl
theorem awakeCalls (w : World) : Calls Tryz.prog 22 #[] w fun e w' => e = .returned (.bool true) ∧ Stays w w' :=
  closed_calls Tryz.checked.mixed ftOk (f := 22) (af := c22) rfl awakeRun w

theorem run (a b : Int) (s : List Nat) : callD boolAns (without ft.get 22) (lastW 22 lastF) 60 (.func (.func 7) [] []) [.int .i64 a, .int .i64 b, .str s] ⟨0, .leaf⟩ endB = (bif ltI 2000 (.ofNat s.length) then true else true) := by kernel_rfl

theorem walk (a b : Int) (s : ByteArray) (w : World) : Calls Tryz.prog 7 #[.int .i64 a, .int .i64 b, .string s] w fun e w' => e = .returned (.bool true) ∧ Stays w w' :=
  open_calls (d := 59) Tryz.checked.mixed (without_ok (FT.tabOk ftOk) 22) (lastW_ok ok22 awakeCalls lastF_ok) (f := 7) (af := c7) rfl (.cons (.int _ _) (.cons (.int _ _) (.cons (.str _) .nil))) (by rw [run]; cases ltI 2000 (.ofNat (bytesOf s).length) <;> rfl) w

theorem lifted (os : Os) (started : os.Started) (H : Type) (enc : TypeId × Value → H) :
    ReturnsInHanded {} Tryz.checked os 7 .any (Rows.stackNobodySpec.pre6 enc Tryz.prog Tryz.f7 Rows.stackNobodyRow.domain false) (Rows.stackNobodySpec.post enc Tryz.prog Tryz.f7 false true false false) := by
  refine law_lifted (C := Tryz.checked) (tb := 4) own started (by kernel_rfl) Tryz.func7
    (ChangeSpec.witness6 (enc := enc) (C := Tryz.checked) false ⟨#[], #[.int .i64 0, .int .i64 0, .string ⟨#[]⟩], []⟩ 8 (by kernel_rfl) (by kernel_rfl) (by kernel_rfl) (by kernel_rfl))
    laidOut rowed sized (by kernel_rfl) rfl Tryz.underlying4 rfl (fun ds h => match ds, h with | [_, _, _], _ => ⟨rfl, rfl, rfl⟩) ?_
  intro W base args ds p hval0 hA0
  have hval : ∀ (j : Nat) t v, Tryz.f7.params[j]? = some t → args[j]? = some v → Value.okWide Tryz.prog W .any base t v := hval0
  have hA : DataW.TrodAll enc Tryz.prog W 0 (fun _ => true) true Tryz.f7.params.toList args.toList ds p := hA0
  clear hval0 hA0
  rw [Tryz.params7] at hA hval
  obtain ⟨v0, vs0, d0, ds0, p0, q0, e0, rfl, rfl, h0, hA⟩ := trodAll_cons hA
  obtain ⟨v1, vs1, d1, ds1, p1, q1, e1, rfl, rfl, h1, hA⟩ := trodAll_cons hA
  obtain ⟨v2, vs2, d2, ds2, p2, q2, e2, rfl, rfl, h2, hA⟩ := trodAll_cons hA
  obtain ⟨e3, rfl, rfl⟩ := trodAll_nil hA
  subst e3
  subst e2
  subst e1
  have ha : args = #[v0, v1, v2] := by cases args; simp_all
  subst ha
  obtain ⟨n0, rfl, -, -, w0⟩ := open_int Tryz.underlying3 (hval 0 3 v0 rfl rfl) h0
  obtain ⟨n1, rfl, -, -, w1⟩ := open_int Tryz.underlying3 (hval 1 3 v1 rfl rfl) h1
  obtain ⟨n2, rfl, -, -, w2⟩ := Go.ChangeMaps.open_string Tryz.underlying9 (hval 2 9 v2 rfl rfl) h2
  exact walk n0 n1 n2 W

theorem over : Rows.stackNobodyRow.holds Tryz.pinned (OpenSpec.ofChange Rows.stackNobodySpec) :=
  OpenClaim.holds_of_wide 7 Tryz.f7 rfl rfl rfl rfl rfl rfl rfl ⟨rfl, rfl, rfl, rfl, rfl⟩ rfl rfl rfl rfl rfl (by kernel_rfl) Tryz.func7 (by kernel_rfl)
    (of_decide_eq_true (by kernel_rfl)) (by unfold Func.isWrapper; first | (rw [if_pos (by decide +kernel)]; kernel_rfl) | (rw [if_neg (by decide +kernel)]; exact ⟨rfl, rfl⟩))
    (fun os started H enc _ => lifted os started H enc)

/-- The statement. -/
theorem proved : Rows.StackNobodySaid :=
  over
#print axioms proved
end Go.Proofs.YtnhajpkoplgiiaaGreat.stackNobody
