/- SuperStale: for every input the law returns true and its arguments are as they were. No condition. -/
import Derived.Test.YthmbmcpjakbepaaRows
import Derived.WalkKit
import Derived.ProofKit
import Derived.OpenShut
import Derived.ChangeMaps5
import Derived.Test.YthmbmcpjakbepaaCodeSS
import Derived.Test.YthmbmcpjakbepaaTY
import Derived.Test.YthmbmcpjakbepaaShelfP
namespace Go.Proofs.Ythmbmcpjakbepaa.superStale
open Go Go.AM Go.ChangeShapes Go.WideShapes Go.ChangeAt Go.RowKit
set_option linter.unusedVariables false
set_option maxRecDepth 100000
theorem own : ownKnob Try.prog.godebug = none := by kernel_rfl
theorem laidOut : laidOutB Try.prog = true := by kernel_rfl
theorem rowed : mapsRowed Try.prog = true := by kernel_rfl
theorem sized : szB Try.prog = true := by kernel_rfl
theorem awakeRun : callD boolAns (without ft.get 30) (lastFn 30 sumK lastF) 60 Ys.none (.func (.func 16) [] []) [] ⟨0, .leaf⟩ endB = true := by kernel_rfl
theorem awakeCalls (w : World) : Calls Try.prog 16 #[] w fun e w' => e = .returned (.bool true) ∧ Stays w w' :=
  open_calls (d := 59) Try.checked.mixed (without_ok (FT.tabOk ftOk) 30) (lastFn_ok (callable_fok ok30) (sumK_ok Try.checked.mixed ok30) lastF_ok) (f := 16) (af := c16) rfl .nil awakeRun w
theorem la6Ok : LastOk Try.prog la6 id := la6_ok Try.checked.mixed (la4_ok Try.checked.mixed (la3_ok Try.checked.mixed (la2_ok Try.checked.mixed (la1_ok Try.checked.mixed ok32) ok15 ok33 ok34) ok30) ok12 ok28 ok29) ok18 ok28 ok37
theorem la9Ok : LastOk Try.prog la9 id := lastW_ok ok16 awakeCalls (la10_ok Try.checked.mixed la6Ok ok20 ok22)
theorem call51 : Callable Try.prog 51 := callable_of Try.func51 (by kernel_rfl) (by kernel_rfl)
theorem h42 : ∀ C, S42 C → C.wf = true → ConOk Try.prog 42 C := s42_ok Try.checked.mixed ok41 ok42 ok43 ok44 ok49
theorem h45 : ∀ C, S45 C → C.wf = true → ConOk Try.prog 45 C := s45_ok Try.checked.mixed call51 (sS_ok Try.slices_Sort_int) ok45 ok50 ok52 ok53
theorem h39 : ∀ C, S39 C → C.wf = true → ConOk Try.prog 39 C := s39_ok Try.checked.mixed (la39_ok h42 h45 (callable_fok ok42) (callable_fok ok45)) ok39 ok41 ok46
theorem h23 : ∀ C, S23 C → C.wf = true → ConOk Try.prog 23 C := s23_ok Try.checked.mixed (of20_ok Try.checked.mixed la6Ok ok20) (callable_fok ok39) h39 ok23
theorem la2Ok : LastOk Try.prog la2 id := la2_ok Try.checked.mixed (la1_ok Try.checked.mixed ok32) ok15 ok33 ok34
theorem lastOk : LastOk Try.prog la12 id := lastC_ok (callable_fok ok23) h23 (wk26_ok Try.checked.mixed la2Ok la9Ok ok26)
theorem u8_nat {k : Int} (hk : (Lit.int .u8 k).wf = true) : ∃ j : Nat, k = ((j : Nat) : Int) ∧ j < 256 := by
  have h1 : (0 : Int) ≤ k ∧ k ≤ 255 := by
    simp only [Lit.wf, Bool.and_eq_true, decide_eq_true_eq] at hk
    exact hk
  obtain ⟨j, rfl⟩ := Int.eq_ofNat_of_zero_le h1.1
  exact ⟨j, rfl, by have := h1.2; omega⟩
theorem walk (a m l n r e p x0 x1 x2 x3 c k0 k1 : Int) (h0 : (Lit.int .u8 k0).wf = true) (h1 : (Lit.int .u8 k1).wf = true) (w : World) : Calls Try.prog 10 #[.agg #[.int .i64 a, .int .i64 m, .int .i64 l, .int .i64 n, .int .i64 r, .int .i64 e, .int .i64 p, .int .i64 x0, .int .i64 x1, .int .i64 x2, .int .i64 x3, .int .i64 c], .int .u8 k0, .int .u8 k1] w fun e w' => e = .returned (.bool true) ∧ Stays w w' := by
  obtain ⟨z0, rfl, y0⟩ := u8_nat h0
  obtain ⟨z1, rfl, y1⟩ := u8_nat h1
  exact (answers_of_walk Try.checked.mixed ok10 (callD_sound pHolds Try.checked.mixed tb0_ok lastOk 5) (ρ := fun _ => none) (args := [sup a m l n r e p x0 x1 x2 x3 c, .int .u8 ((z0 : Nat) : Int), .int .u8 ((z1 : Nat) : Int)]) (.cons (.agg (.cons (.int _ _) (.cons (.int _ _) (.cons (.int _ _) (.cons (.int _ _) (.cons (.int _ _) (.cons (.int _ _) (.cons (.int _ _) (.cons (.int _ _) (.cons (.int _ _) (.cons (.int _ _) (.cons (.int _ _) (.cons (.int _ _) (.nil)))))))))))))) (.cons (.int _ _) (.cons (.int _ _) .nil))) rfl rfl
    (fun K hK => stale_walk _ a m l n r e p x0 x1 x2 x3 c z0 z1 y0 y1 K hK) w).mono fun e w' ⟨v', he, hv, hs⟩ => by
      have h := hv fun _ => none
      cases h
      exact ⟨he, hs⟩
theorem lifted (os : Os) (started : os.Started) (H : Type) (enc : TypeId × Value → H) :
    ReturnsInHanded {} Try.checked os 10 .any (Rows.superStaleSpec.pre6 enc Try.prog Try.f10 Rows.superStaleRow.domain false) (Rows.superStaleSpec.post enc Try.prog Try.f10 false true false false) := by
  refine law_lifted (C := Try.checked) (tb := 4) own started (by kernel_rfl) Try.func10
    (ChangeSpec.witness6 (enc := enc) (C := Try.checked) false ⟨#[], #[.agg #[.int .i64 0, .int .i64 0, .int .i64 0, .int .i64 0, .int .i64 0, .int .i64 0, .int .i64 0, .int .i64 0, .int .i64 0, .int .i64 0, .int .i64 0, .int .i64 0], .int .u8 0, .int .u8 0], []⟩ 8 (by kernel_rfl) (by kernel_rfl) (by kernel_rfl) (by kernel_rfl))
    laidOut rowed sized (by kernel_rfl) rfl Try.underlying4 rfl (fun ds h => match ds, h with | [_, _, _], _ => ⟨rfl, rfl, rfl⟩) ?_
  intro W base args ds p hval0 hA0
  have hval : ∀ (j : Nat) t v, Try.f10.params[j]? = some t → args[j]? = some v → Value.okWide Try.prog W .any base t v := hval0
  have hA : DataW.TrodAll enc Try.prog W 0 (fun _ => true) true Try.f10.params.toList args.toList ds p := hA0
  clear hval0 hA0
  rw [Try.params10] at hA hval
  obtain ⟨v0, vs0, d0, ds0, p0, q0, e0, rfl, rfl, h0, hA⟩ := trodAll_cons hA
  obtain ⟨v1, vs1, d1, ds1, p1, q1, e1, rfl, rfl, h1, hA⟩ := trodAll_cons hA
  obtain ⟨v2, vs2, d2, ds2, p2, q2, e2, rfl, rfl, h2, hA⟩ := trodAll_cons hA
  obtain ⟨e3, rfl, rfl⟩ := trodAll_nil hA
  subst e3
  subst e2
  subst e1
  have ha : args = #[v0, v1, v2] := by cases args; simp_all
  subst ha
  obtain ⟨n1, rfl, -, -, w1⟩ := open_int Try.underlying5 (hval 1 5 v1 rfl rfl) h1
  obtain ⟨n2, rfl, -, -, w2⟩ := open_int Try.underlying5 (hval 2 5 v2 rfl rfl) h2
  obtain ⟨l0, rfl, c0⟩ := open_agg (ts := [3, 3, 3, 3, 3, 3, 3, 3, 3, 3, 3, 3]) (by rw [Try.underlying26]) (by kernel_rfl) (by kernel_rfl) (hval 0 26 v0 rfl rfl)
  obtain ⟨x0_0, l0_0, rfl, k0_0, c0⟩ := cells_cons c0
  obtain ⟨x0_1, l0_1, rfl, k0_1, c0⟩ := cells_cons c0
  obtain ⟨x0_2, l0_2, rfl, k0_2, c0⟩ := cells_cons c0
  obtain ⟨x0_3, l0_3, rfl, k0_3, c0⟩ := cells_cons c0
  obtain ⟨x0_4, l0_4, rfl, k0_4, c0⟩ := cells_cons c0
  obtain ⟨x0_5, l0_5, rfl, k0_5, c0⟩ := cells_cons c0
  obtain ⟨x0_6, l0_6, rfl, k0_6, c0⟩ := cells_cons c0
  obtain ⟨x0_7, l0_7, rfl, k0_7, c0⟩ := cells_cons c0
  obtain ⟨x0_8, l0_8, rfl, k0_8, c0⟩ := cells_cons c0
  obtain ⟨x0_9, l0_9, rfl, k0_9, c0⟩ := cells_cons c0
  obtain ⟨x0_10, l0_10, rfl, k0_10, c0⟩ := cells_cons c0
  obtain ⟨x0_11, l0_11, rfl, k0_11, c0⟩ := cells_cons c0
  obtain rfl := cells_nil c0
  obtain ⟨n0_0, rfl, g0_0⟩ := cell_int Try.underlying3 k0_0
  obtain ⟨n0_1, rfl, g0_1⟩ := cell_int Try.underlying3 k0_1
  obtain ⟨n0_2, rfl, g0_2⟩ := cell_int Try.underlying3 k0_2
  obtain ⟨n0_3, rfl, g0_3⟩ := cell_int Try.underlying3 k0_3
  obtain ⟨n0_4, rfl, g0_4⟩ := cell_int Try.underlying3 k0_4
  obtain ⟨n0_5, rfl, g0_5⟩ := cell_int Try.underlying3 k0_5
  obtain ⟨n0_6, rfl, g0_6⟩ := cell_int Try.underlying3 k0_6
  obtain ⟨n0_7, rfl, g0_7⟩ := cell_int Try.underlying3 k0_7
  obtain ⟨n0_8, rfl, g0_8⟩ := cell_int Try.underlying3 k0_8
  obtain ⟨n0_9, rfl, g0_9⟩ := cell_int Try.underlying3 k0_9
  obtain ⟨n0_10, rfl, g0_10⟩ := cell_int Try.underlying3 k0_10
  obtain ⟨n0_11, rfl, g0_11⟩ := cell_int Try.underlying3 k0_11
  exact walk n0_0 n0_1 n0_2 n0_3 n0_4 n0_5 n0_6 n0_7 n0_8 n0_9 n0_10 n0_11 n1 n2 w1 w2 W
theorem over : Rows.superStaleRow.holds Try.pinned (OpenSpec.ofChange Rows.superStaleSpec) :=
  OpenClaim.holds_of_wide 10 Try.f10 rfl rfl rfl rfl rfl rfl rfl ⟨rfl, rfl, rfl, rfl, rfl⟩ rfl rfl rfl rfl rfl (by kernel_rfl) Try.func10 (by kernel_rfl)
    (of_decide_eq_true (by kernel_rfl)) (by unfold Func.isWrapper; first | (rw [if_pos (by decide +kernel)]; kernel_rfl) | (rw [if_neg (by decide +kernel)]; exact ⟨rfl, rfl⟩))
    (fun os started H enc _ => lifted os started H enc)
theorem proved : Rows.SuperStaleSaid :=
  over
#print axioms proved
end Go.Proofs.Ythmbmcpjakbepaa.superStale
