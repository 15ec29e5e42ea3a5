/- SuperMakes: for every input the law returns true and its arguments are as they were. No condition. -/
import Derived.Test.YthmbmcpjakbepaaRows
import Derived.WalkKit
import Derived.ProofKit
import Derived.OpenShut
import Derived.ChangeMaps5
import Derived.Test.YthmbmcpjakbepaaCodeSM
import Derived.Test.YthmbmcpjakbepaaQJ
import Derived.Test.YthmbmcpjakbepaaShelfP
namespace Go.Proofs.Ythmbmcpjakbepaa.superMakes
open Go Go.AM Go.ChangeShapes Go.WideShapes Go.ChangeAt Go.RowKit
set_option linter.unusedVariables false
set_option maxRecDepth 100000
theorem own : ownKnob Try.prog.godebug = none := by kernel_rfl
theorem laidOut : laidOutB Try.prog = true := by kernel_rfl
theorem rowed : mapsRowed Try.prog = true := by kernel_rfl
theorem sized : szB Try.prog = true := by kernel_rfl
theorem awakeRun : callD boolAns (without ft.get 30) (lastFn 30 sumK lastF) 60 Ys.none (.func (.func 16) [] []) [] ⟨0, .leaf⟩ endB = true := by kernel_rfl
theorem awakeCalls (w : World) : Calls Try.prog 16 #[] w fun e w' => e = .returned (.bool true) ∧ Stays w w' :=
  open_calls (d := 59) Try.checked.mixed (without_ok (FT.tabOk ftOk) 30) (lastFn_ok (callable_fok ok30) (sumK_ok Try.checked.mixed ok30) lastF_ok) (f := 16) (af := c16) rfl .nil awakeRun w
theorem la1Ok : LastOk Try.prog la1 id := la1_ok Try.checked.mixed ok31 ok32
theorem la2Ok : LastOk Try.prog la2 id := la2_ok Try.checked.mixed la1Ok ok13 ok15 ok33 ok34
theorem la3Ok : LastOk Try.prog la3 id := la3_ok Try.checked.mixed la2Ok ok30 ok36
theorem la4Ok : LastOk Try.prog la4 id := la4_ok Try.checked.mixed la3Ok ok12 ok17 ok28 ok29 ok35
theorem la6Ok : LastOk Try.prog la6 id := la6_ok Try.checked.mixed la4Ok (num_ok Try.checked.mixed ok38 (lastFn_ok (callable_fok ok36) (sumR_ok Try.checked.mixed ok36 rcrc_walk) (sup13_ok Try.checked.mixed la1Ok ok13 (rec17_ok Try.checked.mixed la3Ok ok17 ok28 ok29 ok35 la0_ok))))
  (lastC_ok (callable_fok ok37) (s37_ok Try.checked.mixed ok37) (byt12_ok Try.checked.mixed la3Ok ok12 ok28 ok29 ok35 (lastFn_ok (callable_fok ok30) (sumR_ok Try.checked.mixed ok30 sum_walk) la0_ok))) ok18 ok19 ok28
theorem la24Ok : LastOk Try.prog la24 id := lastFn_ok (callable_fok ok22) (fun ρ args args' v hv ha => by
  unfold zerR at hv; split at hv
  · cases hv; exact answers_of_walk Try.checked.mixed ok22 (callD_sound pHolds Try.checked.mixed tb0_ok la0_ok 5) ha rfl rfl (fun K hK => zeros _ K hK)
  · cases hv) la4Ok
theorem call51 : Callable Try.prog 51 := callable_of Try.func51 (by kernel_rfl) (by kernel_rfl)
theorem h42 : ∀ C, S42 C → C.wf = true → ConOk Try.prog 42 C := s42_ok Try.checked.mixed ok41 ok42 ok43 ok44 ok49
theorem h45 : ∀ C, S45 C → C.wf = true → ConOk Try.prog 45 C := s45_ok Try.checked.mixed call51 (sS_ok Try.slices_Sort_int) ok45 ok50 ok52 ok53
theorem h39 : ∀ C, S39 C → C.wf = true → ConOk Try.prog 39 C := s39_ok Try.checked.mixed (la39_ok h42 h45 (callable_fok ok42) (callable_fok ok45)) ok39 ok41 ok46
theorem h23 : ∀ C, S23 C → C.wf = true → ConOk Try.prog 23 C := s23_ok Try.checked.mixed (of20_ok Try.checked.mixed la6Ok ok20) (callable_fok ok39) h39 ok23
theorem no_fn {n : Nat} (h : Callable Try.prog n) : LastOk Try.prog (lastFn n (fun _ => none) la0) id := lastFn_ok h (fun _ _ _ v h _ => nomatch (show (none : Option V) = some v from h)) la0_ok
theorem h23m : ∀ C, S23m C → C.wf = true → ConOk Try.prog 23 C := s23m_ok Try.checked.mixed (lastC_ok (callable_fok ok39) h39 (no_fn (callable_fok ok20))) h23 ok23
theorem h25 : ∀ C, S25 C → C.wf = true → ConOk Try.prog 25 C := s25m_ok Try.checked.mixed (lastC_ok (callable_fok ok40) (s40_ok Try.checked.mixed ok40 ok47 ok48) (no_fn (callable_fok ok21))) (s25_ok Try.checked.mixed la6Ok ok21 ok25 ok40 ok47 ok48) ok25
theorem l9m : LastOk Try.prog la9m id := lastC_ok (callable_fok ok23) h23m (lastC_ok (callable_fok ok25) h25 (wk26_ok Try.checked.mixed (sec24_ok Try.checked.mixed (lastW_ok ok16 awakeCalls la0_ok) la24Ok (tbG_ok ok14) ok24) la2Ok ok26))
theorem i3 : IntsT Try.prog 3 := ints_int Try.underlying3 (by kernel_rfl)
theorem i23 : IntsT Try.prog 23 := ints_struct Try.underlying23 (by kernel_rfl) fun f hf => by
  change f ∈ [_, _, _] at hf
  simp only [List.mem_cons, List.not_mem_nil, or_false] at hf
  rcases hf with rfl | rfl | rfl <;> exact i3
theorem i24 : IntsT Try.prog 24 := ints_array Try.underlying24 (by kernel_rfl) i3
theorem i26 : IntsT Try.prog 26 := ints_struct Try.underlying26 (by kernel_rfl) fun f hf => by
  change f ∈ [_, _, _, _, _, _, _] at hf
  simp only [List.mem_cons, List.not_mem_nil, or_false] at hf
  rcases hf with rfl | rfl | rfl | rfl | rfl | rfl | rfl <;> first | exact i3 | exact i23 | exact i24
theorem intsE : IntsT Try.prog 61 := ints_array Try.underlying61 (by kernel_rfl) i26
theorem cellsE : Try.prog.cellsOf 61 = 24 := by kernel_rfl
theorem walk (v : Value) {w : World} (hv : IsSliceI w 24 v) (n1 : Int) (n2 : ByteArray) (n3 : Int) (w1 : (Lit.int .i64 n1).wf = true) (w2 : n2.size ≤ maxLen) : Calls Try.prog 9 #[v, .int .i64 n1, .string n2, .int .i64 n3] w fun e w' => e = .returned (.bool true) ∧ Stays w w' :=
  s9_ok Try.checked.mixed l9m (tbG_ok ok14) ok9 hv n1 n3 (by
    simp only [Lit.wf, Bool.and_eq_true, decide_eq_true_eq] at w1
    exact w1.2) n2 (by unfold maxLen at w2; simp only [bytesOf, List.length_map]; exact w2)
theorem lifted (os : Os) (started : os.Started) (H : Type) (enc : TypeId × Value → H) :
    ReturnsInHanded {} Try.checked os 9 .any (Rows.superMakesSpec.pre6 enc Try.prog Try.f9 Rows.superMakesRow.domain false) (Rows.superMakesSpec.post enc Try.prog Try.f9 false true false false) := by
  refine law_lifted (C := Try.checked) (tb := 4) own started (by kernel_rfl) Try.func9
    (ChangeSpec.witness6 (enc := enc) (C := Try.checked) false ⟨#[], #[.slice none 0 0, .int .i64 0, .string ⟨#[]⟩, .int .i64 0], []⟩ 8 (by kernel_rfl) (by kernel_rfl) (by kernel_rfl) (by kernel_rfl))
    laidOut rowed sized (by kernel_rfl) rfl Try.underlying4 rfl (fun ds h => match ds, h with | [_, _, _, _], _ => ⟨rfl, rfl, rfl⟩) ?_
  intro W base args ds p hval0 hA0
  have hval : ∀ (j : Nat) t v, Try.f9.params[j]? = some t → args[j]? = some v → Value.okWide Try.prog W .any base t v := hval0
  have hA : DataW.TrodAll enc Try.prog W 0 (fun _ => true) true Try.f9.params.toList args.toList ds p := hA0
  clear hval0 hA0
  rw [Try.params9] at hA hval
  obtain ⟨v0, vs0, d0, ds0, p0, q0, e0, rfl, rfl, h0, hA⟩ := trodAll_cons hA
  obtain ⟨v1, vs1, d1, ds1, p1, q1, e1, rfl, rfl, h1, hA⟩ := trodAll_cons hA
  obtain ⟨v2, vs2, d2, ds2, p2, q2, e2, rfl, rfl, h2, hA⟩ := trodAll_cons hA
  obtain ⟨v3, vs3, d3, ds3, p3, q3, e3, rfl, rfl, h3, hA⟩ := trodAll_cons hA
  obtain ⟨e4, rfl, rfl⟩ := trodAll_nil hA
  subst e4
  subst e3
  subst e2
  subst e1
  have ha : args = #[v0, v1, v2, v3] := by cases args; simp_all
  subst ha
  have m0 := open_sliceI Try.underlying59 cellsE intsE (hval 0 59 v0 rfl rfl) h0
  obtain ⟨n1, rfl, -, -, w1⟩ := open_int Try.underlying3 (hval 1 3 v1 rfl rfl) h1
  obtain ⟨n2, rfl, -, -, w2⟩ := Go.ChangeMaps.open_string Try.underlying9 (hval 2 9 v2 rfl rfl) h2
  obtain ⟨n3, rfl, -, -, w3⟩ := open_int Try.underlying3 (hval 3 3 v3 rfl rfl) h3
  exact walk v0 m0 n1 n2 n3 w1 w2
theorem over : Rows.superMakesRow.holds Try.pinned (OpenSpec.ofChange Rows.superMakesSpec) :=
  OpenClaim.holds_of_wide 9 Try.f9 rfl rfl rfl rfl rfl rfl rfl ⟨rfl, rfl, rfl, rfl, rfl⟩ rfl rfl rfl rfl rfl (by kernel_rfl) Try.func9 (by kernel_rfl)
    (of_decide_eq_true (by kernel_rfl)) (by unfold Func.isWrapper; first | (rw [if_pos (by decide +kernel)]; kernel_rfl) | (rw [if_neg (by decide +kernel)]; exact ⟨rfl, rfl⟩))
    (fun os started H enc _ => lifted os started H enc)
theorem proved : Rows.SuperMakesSaid :=
  over
#print axioms proved
end Go.Proofs.Ythmbmcpjakbepaa.superMakes
