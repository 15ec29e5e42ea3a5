/- SuperReads: for every input the law returns true and its arguments are as they were. No condition. -/
import Derived.Test.YthmbmcpjakbepaaRows
import Derived.WalkKit
import Derived.ProofKit
import Derived.OpenShut
import Derived.ChangeMaps5
import Derived.Test.YthmbmcpjakbepaaCodeSR
import Derived.Test.YthmbmcpjakbepaaSK
namespace Go.Proofs.Ythmbmcpjakbepaa.superReads
open Go Go.AM Go.ChangeShapes Go.WideShapes Go.ChangeAt Go.RowKit
set_option linter.unusedVariables false
set_option maxRecDepth 100000

theorem own : ownKnob Try.prog.godebug = none := by kernel_rfl
theorem laidOut : laidOutB Try.prog = true := by kernel_rfl
theorem rowed : mapsRowed Try.prog = true := by kernel_rfl
theorem sized : szB Try.prog = true := by kernel_rfl

/-- The law's own examples come out right. -/
theorem awakeRun : callD boolAns (without ft.get 30) (lastFn 30 sumK lastF) 60 Ys.none (.func (.func 16) [] []) [] ⟨0, .leaf⟩ endB = true := by kernel_rfl
theorem awakeCalls (w : World) : Calls Try.prog 16 #[] w fun e w' => e = .returned (.bool true) ∧ Stays w w' :=
  open_calls (d := 59) Try.checked.mixed (without_ok (FT.tabOk ftOk) 30) (lastFn_ok (callable_fok ok30) (sumK_ok Try.checked.mixed ok30) lastF_ok) (f := 16) (af := c16) rfl .nil awakeRun w
theorem lastOk : LastOk Try.prog la7 id :=
  lastW_ok ok16 awakeCalls (la7a_ok Try.checked.mixed (la6_ok Try.checked.mixed (la4_ok Try.checked.mixed (la3_ok Try.checked.mixed (la2_ok Try.checked.mixed (la1_ok Try.checked.mixed ok31 ok32) ok13 ok15 ok33 ok34) ok30 ok36) ok12 ok17 ok28 ok29 ok35) ok18 ok19 ok28 ok37 ok38) ok20 ok21)
theorem walk (z o : ByteArray) (w : World) : Calls Try.prog 4 #[.string z, .string o] w fun e w' => e = .returned (.bool true) ∧ Stays w w' :=
  (answers_of_walk Try.checked.mixed ok4 (callD_sound pHolds Try.checked.mixed (tbG_ok ok14) lastOk 5) (ρ := fun _ => none) (args := [.str (bytesOf z), .str (bytesOf o)]) (.cons (.str _) (.cons (.str _) .nil)) rfl rfl
    (fun K hK => lread _ (bytesOf z) (bytesOf o) K hK) w).mono fun e w' ⟨v', he, hv, hs⟩ => by
      have h := hv fun _ => none
      cases h
      exact ⟨he, hs⟩

theorem lifted (os : Os) (started : os.Started) (H : Type) (enc : TypeId × Value → H) :
    ReturnsInHanded {} Try.checked os 4 .any (Rows.superReadsSpec.pre6 enc Try.prog Try.f4 Rows.superReadsRow.domain false) (Rows.superReadsSpec.post enc Try.prog Try.f4 false true false false) := by
  refine law_lifted (C := Try.checked) (tb := 4) own started (by kernel_rfl) Try.func4
    (ChangeSpec.witness6 (enc := enc) (C := Try.checked) false ⟨#[], #[.string ⟨#[]⟩, .string ⟨#[]⟩], []⟩ 8 (by kernel_rfl) (by kernel_rfl) (by kernel_rfl) (by kernel_rfl))
    laidOut rowed sized (by kernel_rfl) rfl Try.underlying4 rfl (fun ds h => match ds, h with | [_, _], _ => ⟨rfl, rfl, rfl⟩) ?_
  intro W base args ds p hval0 hA0
  have hval : ∀ (j : Nat) t v, Try.f4.params[j]? = some t → args[j]? = some v → Value.okWide Try.prog W .any base t v := hval0
  have hA : DataW.TrodAll enc Try.prog W 0 (fun _ => true) true Try.f4.params.toList args.toList ds p := hA0
  clear hval0 hA0
  rw [Try.params4] at hA hval
  obtain ⟨v0, vs0, d0, ds0, p0, q0, e0, rfl, rfl, h0, hA⟩ := trodAll_cons hA
  obtain ⟨v1, vs1, d1, ds1, p1, q1, e1, rfl, rfl, h1, hA⟩ := trodAll_cons hA
  obtain ⟨e2, rfl, rfl⟩ := trodAll_nil hA
  subst e2
  subst e1
  have ha : args = #[v0, v1] := by cases args; simp_all
  subst ha
  obtain ⟨n0, rfl, -, -, w0⟩ := Go.ChangeMaps.open_string Try.underlying9 (hval 0 9 v0 rfl rfl) h0
  obtain ⟨n1, rfl, -, -, w1⟩ := Go.ChangeMaps.open_string Try.underlying9 (hval 1 9 v1 rfl rfl) h1
  exact walk n0 n1 W

theorem over : Rows.superReadsRow.holds Try.pinned (OpenSpec.ofChange Rows.superReadsSpec) :=
  OpenClaim.holds_of_wide 4 Try.f4 rfl rfl rfl rfl rfl rfl rfl ⟨rfl, rfl, rfl, rfl, rfl⟩ rfl rfl rfl rfl rfl (by kernel_rfl) Try.func4 (by kernel_rfl)
    (of_decide_eq_true (by kernel_rfl)) (by unfold Func.isWrapper; first | (rw [if_pos (by decide +kernel)]; kernel_rfl) | (rw [if_neg (by decide +kernel)]; exact ⟨rfl, rfl⟩))
    (fun os started H enc _ => lifted os started H enc)

/-- The statement. -/
theorem proved : Rows.SuperReadsSaid :=
  over
#print axioms proved
end Go.Proofs.Ythmbmcpjakbepaa.superReads
