/- PlaceSpans: for every input the law returns true and its arguments are as they were. No condition. -/
import Derived.Test.YtefklpegpecliaaRows
import Derived.WalkKit
import Derived.ProofKit
import Derived.OpenShut
import Derived.ChangeMaps5
import Derived.Test.YtefklpegpecliaaCodeN
import Derived.Test.YtefklpegpecliaaTV
import Derived.Test.YtefklpegpecliaaShelfP
namespace Go.Proofs.Ytefklpegpecliaa.placeSpans
open Go Go.AM Go.ChangeShapes Go.WideShapes Go.ChangeAt Go.RowKit
set_option linter.unusedVariables false
set_option maxRecDepth 100000

theorem own : ownKnob Try.prog.godebug = none := by kernel_rfl
theorem laidOut : laidOutB Try.prog = true := by kernel_rfl
theorem rowed : mapsRowed Try.prog = true := by kernel_rfl
theorem sized : szB Try.prog = true := by kernel_rfl

/-- The law's own examples come out right. -/
theorem awakeRun : callD boolAns ft.get lastF 60 Ys.none (.func (.func 14) [] []) [] ⟨0, .leaf⟩ endB = true := by kernel_rfl
theorem awakeCalls (w : World) : Calls Try.prog 14 #[] w fun e w' => e = .returned (.bool true) ∧ Stays w w' :=
  closed_calls Try.checked.mixed ftOk (f := 14) (af := c14) rfl awakeRun w
theorem call24 : Callable Try.prog 24 := callable_of Try.func24 (by kernel_rfl) (by kernel_rfl)
theorem call25 : Callable Try.prog 25 := callable_of Try.func25 (by kernel_rfl) (by kernel_rfl)
theorem la4Ok : LastOk Try.prog la4 id := la4_ok Try.checked.mixed (la3_ok Try.checked.mixed (la2_ok Try.checked.mixed (la1_ok Try.checked.mixed ok10) ok13) ok22) ok16
theorem laROk : LastOk Try.prog laR id := laR_ok Try.checked.mixed la4Ok ok12 ok17 call24 call25 (s24_ok Try.slices_Sort_int) (s25_ok Try.slices_Compact_int)
theorem lastOk : LastOk Try.prog laS id := lastW_ok ok14 awakeCalls (laSa_ok Try.checked.mixed la4Ok laROk ok11 ok15 ok19 ok20)
theorem walk (l m r s x : Int) (w : World) : Calls Try.prog 8 #[.agg #[.int .i64 l, .int .i64 m, .int .i64 r], .int .i64 s, .int .i64 x] w fun e w' => e = .returned (.bool true) ∧ Stays w w' :=
  (answers_of_walk Try.checked.mixed ok8 (callD_sound pHolds Try.checked.mixed tb0_ok lastOk 5) (ρ := fun _ => none) (args := [geo l m r, .int .i64 s, .int .i64 x]) (.cons (.agg (.cons (.int _ _) (.cons (.int _ _) (.cons (.int _ _) .nil)))) (.cons (.int _ _) (.cons (.int _ _) .nil))) rfl rfl
    (fun K hK => spans_walk _ l m r s x K hK) w).mono fun e w' ⟨v', he, hv, hs⟩ => by
      have h := hv fun _ => none
      cases h
      exact ⟨he, hs⟩

theorem lifted (os : Os) (started : os.Started) (H : Type) (enc : TypeId × Value → H) :
    ReturnsInHanded {} Try.checked os 8 .any (Rows.placeSpansSpec.pre6 enc Try.prog Try.f8 Rows.placeSpansRow.domain false) (Rows.placeSpansSpec.post enc Try.prog Try.f8 false true false false) := by
  refine law_lifted (C := Try.checked) (tb := 4) own started (by kernel_rfl) Try.func8
    (ChangeSpec.witness6 (enc := enc) (C := Try.checked) false ⟨#[], #[.agg #[.int .i64 0, .int .i64 0, .int .i64 0], .int .i64 0, .int .i64 0], []⟩ 8 (by kernel_rfl) (by kernel_rfl) (by kernel_rfl) (by kernel_rfl))
    laidOut rowed sized (by kernel_rfl) rfl Try.underlying4 rfl (fun ds h => match ds, h with | [_, _, _], _ => ⟨rfl, rfl, rfl⟩) ?_
  intro W base args ds p hval0 hA0
  have hval : ∀ (j : Nat) t v, Try.f8.params[j]? = some t → args[j]? = some v → Value.okWide Try.prog W .any base t v := hval0
  have hA : DataW.TrodAll enc Try.prog W 0 (fun _ => true) true Try.f8.params.toList args.toList ds p := hA0
  clear hval0 hA0
  rw [Try.params8] at hA hval
  obtain ⟨v0, vs0, d0, ds0, p0, q0, e0, rfl, rfl, h0, hA⟩ := trodAll_cons hA
  obtain ⟨v1, vs1, d1, ds1, p1, q1, e1, rfl, rfl, h1, hA⟩ := trodAll_cons hA
  obtain ⟨v2, vs2, d2, ds2, p2, q2, e2, rfl, rfl, h2, hA⟩ := trodAll_cons hA
  obtain ⟨e3, rfl, rfl⟩ := trodAll_nil hA
  subst e3
  subst e2
  subst e1
  have ha : args = #[v0, v1, v2] := by cases args; simp_all
  subst ha
  obtain ⟨n1, rfl, -, -, w1⟩ := open_int Try.underlying3 (hval 1 3 v1 rfl rfl) h1
  obtain ⟨n2, rfl, -, -, w2⟩ := open_int Try.underlying3 (hval 2 3 v2 rfl rfl) h2
  obtain ⟨l0, rfl, c0⟩ := open_agg (ts := [3, 3, 3]) (by rw [Try.underlying23]) (by kernel_rfl) (by kernel_rfl) (hval 0 23 v0 rfl rfl)
  obtain ⟨x0_0, l0_0, rfl, k0_0, c0⟩ := cells_cons c0
  obtain ⟨x0_1, l0_1, rfl, k0_1, c0⟩ := cells_cons c0
  obtain ⟨x0_2, l0_2, rfl, k0_2, c0⟩ := cells_cons c0
  obtain rfl := cells_nil c0
  obtain ⟨n0_0, rfl, g0_0⟩ := cell_int Try.underlying3 k0_0
  obtain ⟨n0_1, rfl, g0_1⟩ := cell_int Try.underlying3 k0_1
  obtain ⟨n0_2, rfl, g0_2⟩ := cell_int Try.underlying3 k0_2
  exact walk n0_0 n0_1 n0_2 n1 n2 W

theorem over : Rows.placeSpansRow.holds Try.pinned (OpenSpec.ofChange Rows.placeSpansSpec) :=
  OpenClaim.holds_of_wide 8 Try.f8 rfl rfl rfl rfl rfl rfl rfl ⟨rfl, rfl, rfl, rfl, rfl⟩ rfl rfl rfl rfl rfl (by kernel_rfl) Try.func8 (by kernel_rfl)
    (of_decide_eq_true (by kernel_rfl)) (by unfold Func.isWrapper; first | (rw [if_pos (by decide +kernel)]; kernel_rfl) | (rw [if_neg (by decide +kernel)]; exact ⟨rfl, rfl⟩))
    (fun os started H enc _ => lifted os started H enc)

/-- The statement. -/
theorem proved : Rows.PlaceSpansSaid :=
  over
#print axioms proved
end Go.Proofs.Ytefklpegpecliaa.placeSpans
