/- RowRight: for every input the law returns true and its arguments are as they were. No condition. -/
import Derived.Test.YtjikaankdnmabaaRows
import Derived.WalkKit
import Derived.ProofKit
import Derived.OpenShut
import Derived.ChangeMaps5
import Derived.Test.YtjikaankdnmabaaCodeRR
import Derived.Test.YtjikaankdnmabaaYJ
import Derived.Test.YtjikaankdnmabaaShelfP
namespace Go.Proofs.Ytjikaankdnmabaa.rowRight
open Go Go.AM Go.ChangeShapes Go.WideShapes Go.ChangeAt Go.RowKit
set_option linter.unusedVariables false
set_option maxRecDepth 100000
theorem own : ownKnob Try.prog.godebug = none := by kernel_rfl
theorem laidOut : laidOutB Try.prog = true := by kernel_rfl
theorem rowed : mapsRowed Try.prog = true := by kernel_rfl
theorem sized : szB Try.prog = true := by kernel_rfl
theorem awakeRun : callD boolAns ft.get lastF 60 Ys.none (.func (.func 9) [] []) [] ⟨0, .leaf⟩ endB = true := by kernel_rfl
theorem awakeCalls (w : World) : Calls Try.prog 9 #[] w fun e w' => e = .returned (.bool true) ∧ Stays w w' :=
  closed_calls Try.checked.mixed ftOk (f := 9) (af := c9) rfl awakeRun w
theorem l3 : LastOk Try.prog la3 id := la3_ok Try.checked.mixed ok61 ok47 ok27
theorem l21 : LastOk Try.prog la21 id := la21_ok Try.checked.mixed (lr_ok Try.checked.mixed (la30_ok Try.checked.mixed l3 ok30) ok19) ok32 ok28
theorem lr19 : LastOk Try.prog (lastL 19 S19s la0) id := lr_ok Try.checked.mixed (la30_ok Try.checked.mixed l3 ok30) ok19
theorem h21 : ∀ C, S21 C → C.wf = true → ConOk Try.prog 21 C := S21_ok Try.checked.mixed (tbV_ok ok41 ok51 ok58 ok32 ok44 ok62) l21 ok21
theorem h28 : ∀ C, S28 C → C.wf = true → ConOk Try.prog 28 C := S28_ok Try.checked.mixed ok32 ok28
theorem call53 : Callable Try.prog 53 := callable_fok ok53
theorem h53 : ∀ C, S53 C → C.wf = true → ConOk Try.prog 53 C := s53_ok Try.checked.mixed (sS_ok Try.slices_Sort_int) ok63 ok64 ok65 ok75 ok53
theorem h37 : ∀ C, S37 C → C.wf = true → ConOk Try.prog 37 C := s37_ok Try.checked.mixed ok54 ok55 ok37
theorem h35 : ∀ C, S35 C → C.wf = true → ConOk Try.prog 35 C := s35_ok Try.checked.mixed h37 h53 (callable_fok ok37) call53 ok35
theorem h49 : ∀ C, S49 C → C.wf = true → ConOk Try.prog 49 C := s49_ok Try.checked.mixed ok50 ok62 ok49
theorem l16 : LastOk Try.prog (lastL 16 S16s la0) id := l16_ok Try.checked.mixed ok61 ok47 ok27 ok16 la0_ok
theorem h33 : ∀ C, S33 C → C.wf = true → ConOk Try.prog 33 C := s33_ok Try.checked.mixed (la33_ok Try.checked.mixed h49 h35 (callable_fok ok49) (callable_fok ok35) l16) ok36 ok33
theorem h34 : ∀ C, S34 C → C.wf = true → ConOk Try.prog 34 C := s34_ok Try.checked.mixed ok52 ok51 ok62 ok34
theorem h31 : ∀ C, S31 C → C.wf = true → ConOk Try.prog 31 C := s31_ok Try.checked.mixed ok48 ok31
theorem l10 : LastOk Try.prog la10 id := la10_ok Try.checked.mixed h33 h34 h31 h35 (callable_fok ok33) (callable_fok ok34) (callable_fok ok31) (callable_fok ok35) ok55 ok56 ok37 l3 ok30 ok61 ok47 ok27 ok16
theorem h10 : ∀ C, S10 C → C.wf = true → ConOk Try.prog 10 C := s10_ok Try.checked.mixed l10 ok36 ok38 ok32 ok10
theorem h41 : ∀ C, S41 C → C.wf = true → ConOk Try.prog 41 C := s41_ok Try.checked.mixed (la58_ok Try.checked.mixed ok32 ok58) ok51 ok62 ok41
theorem h44 : ∀ C, S44 C → C.wf = true → ConOk Try.prog 44 C := s44_ok Try.checked.mixed ok44
theorem l12 : LastOk Try.prog la12 id := la12_ok h10 h41 h44 h28 (sq42_ok Try.checked.mixed ok59 ok60 ok42) (callable_fok ok10) (callable_fok ok41) (callable_fok ok44) (callable_fok ok28) (callable_fok ok42) (l27_ok Try.checked.mixed ok61 ok47 ok27)
theorem h26 : ∀ C, S26 C → C.wf = true → ConOk Try.prog 26 C := s26_ok Try.checked.mixed ok26
theorem h24 : ∀ C, S24 C → C.wf = true → ConOk Try.prog 24 C := s24_ok Try.checked.mixed ok24
theorem h17 : ∀ C, S17 C → C.wf = true → ConOk Try.prog 17 C := s17_ok Try.checked.mixed (l18_ok Try.checked.mixed ok18 la0_ok) ok17
theorem h25 : ∀ C, S25 C → C.wf = true → ConOk Try.prog 25 C := s25_ok Try.checked.mixed (lastC_ok (callable_fok ok26) h26 (lastC_ok (callable_fok ok21) h21 lr19)) ok25
theorem l27 : LastOk Try.prog (lastFn 27 R27 (lastL 16 S16s la0)) id := l27x_ok Try.checked.mixed ok61 ok47 ok27 l16
theorem h23 : ∀ C, S23 C → C.wf = true → ConOk Try.prog 23 C := s23_ok Try.checked.mixed (lastC_ok (callable_fok ok28) h28 (l18_ok Try.checked.mixed ok18 l27)) ok23
theorem lastOk : LastOk Try.prog la6 id :=
  lastC_ok (callable_fok ok23) h23 (lastC_ok (callable_fok ok17) h17 (lastC_ok (callable_fok ok24) h24 (lastC_ok (callable_fok ok25) h25 (lastC_ok (callable_fok ok10) h10 (lastC_ok (callable_fok ok26) h26 (lastQ_ok (callable_fok ok12) sq12_pre (sq12_ok Try.checked.mixed l12 ok43 ok12) (lastC_ok (callable_fok ok28) h28 (l18_ok Try.checked.mixed ok18 (l27x_ok Try.checked.mixed ok61 ok47 ok27 (l16_ok Try.checked.mixed ok61 ok47 ok27 ok16 (lastW_ok ok9 awakeCalls la0_ok)))))))))))
theorem walk (l m r s : Int) (t0 t1 t2 t3 u0 u1 u2 u3 : ByteArray) (k o : Int) (w : World) : Calls Try.prog 6 #[.agg #[.int .i64 l, .int .i64 m, .int .i64 r], .int .i64 s, .agg #[.string t0, .string t1, .string t2, .string t3], .agg #[.string u0, .string u1, .string u2, .string u3], .int .u8 k, .int .i64 o] w fun e w' => e = .returned (.bool true) ∧ Stays w w' :=
  calls_plain (s6_ok Try.checked.mixed lastOk ok6 l m r s k o (bytesOf t0) (bytesOf t1) (bytesOf t2) (bytesOf t3) (bytesOf u0) (bytesOf u1) (bytesOf u2) (bytesOf u3) (tx_bytes t0 t1 t2 t3) (tx_bytes u0 u1 u2 u3))
    (.cons (.agg (.cons (.int _ _) (.cons (.int _ _) (.cons (.int _ _) .nil)))) (.cons (.int _ _) (.cons (.agg (.cons (.str _) (.cons (.str _) (.cons (.str _) (.cons (.str _) .nil))))) (.cons (.agg (.cons (.str _) (.cons (.str _) (.cons (.str _) (.cons (.str _) .nil))))) (.cons (.int _ _) (.cons (.int _ _) .nil))))))
theorem lifted (os : Os) (started : os.Started) (H : Type) (enc : TypeId × Value → H) :
    ReturnsInHanded {} Try.checked os 6 .any (Rows.rowRightSpec.pre6 enc Try.prog Try.f6 Rows.rowRightRow.domain false) (Rows.rowRightSpec.post enc Try.prog Try.f6 false true false false) := by
  refine law_lifted (C := Try.checked) (tb := 4) own started (by kernel_rfl) Try.func6
    (ChangeSpec.witness6 (enc := enc) (C := Try.checked) false ⟨#[], #[.agg #[.int .i64 0, .int .i64 0, .int .i64 0], .int .i64 0, .agg #[.string ⟨#[]⟩, .string ⟨#[]⟩, .string ⟨#[]⟩, .string ⟨#[]⟩], .agg #[.string ⟨#[]⟩, .string ⟨#[]⟩, .string ⟨#[]⟩, .string ⟨#[]⟩], .int .u8 0, .int .i64 0], []⟩ 8 (by kernel_rfl) (by kernel_rfl) (by kernel_rfl) (by kernel_rfl))
    laidOut rowed sized (by kernel_rfl) rfl Try.underlying4 rfl (fun ds h => match ds, h with | [_, _, _, _, _, _], _ => ⟨rfl, rfl, rfl⟩) ?_
  intro W base args ds p hval0 hA0
  have hval : ∀ (j : Nat) t v, Try.f6.params[j]? = some t → args[j]? = some v → Value.okWide Try.prog W .any base t v := hval0
  have hA : DataW.TrodAll enc Try.prog W 0 (fun _ => true) true Try.f6.params.toList args.toList ds p := hA0
  clear hval0 hA0
  rw [Try.params6] at hA hval
  obtain ⟨v0, vs0, d0, ds0, p0, q0, e0, rfl, rfl, h0, hA⟩ := trodAll_cons hA
  obtain ⟨v1, vs1, d1, ds1, p1, q1, e1, rfl, rfl, h1, hA⟩ := trodAll_cons hA
  obtain ⟨v2, vs2, d2, ds2, p2, q2, e2, rfl, rfl, h2, hA⟩ := trodAll_cons hA
  obtain ⟨v3, vs3, d3, ds3, p3, q3, e3, rfl, rfl, h3, hA⟩ := trodAll_cons hA
  obtain ⟨v4, vs4, d4, ds4, p4, q4, e4, rfl, rfl, h4, hA⟩ := trodAll_cons hA
  obtain ⟨v5, vs5, d5, ds5, p5, q5, e5, rfl, rfl, h5, hA⟩ := trodAll_cons hA
  obtain ⟨e6, rfl, rfl⟩ := trodAll_nil hA
  subst e6
  subst e5
  subst e4
  subst e3
  subst e2
  subst e1
  have ha : args = #[v0, v1, v2, v3, v4, v5] := by cases args; simp_all
  subst ha
  obtain ⟨n1, rfl, -, -, w1⟩ := open_int Try.underlying3 (hval 1 3 v1 rfl rfl) h1
  obtain ⟨n4, rfl, -, -, w4⟩ := open_int Try.underlying5 (hval 4 5 v4 rfl rfl) h4
  obtain ⟨n5, rfl, -, -, w5⟩ := open_int Try.underlying3 (hval 5 3 v5 rfl rfl) h5
  obtain ⟨l0, rfl, c0⟩ := open_agg (ts := [3, 3, 3]) (by rw [Try.underlying23]) (by kernel_rfl) (by kernel_rfl) (hval 0 23 v0 rfl rfl)
  obtain ⟨x0_0, l0_0, rfl, k0_0, c0⟩ := cells_cons c0
  obtain ⟨x0_1, l0_1, rfl, k0_1, c0⟩ := cells_cons c0
  obtain ⟨x0_2, l0_2, rfl, k0_2, c0⟩ := cells_cons c0
  obtain rfl := cells_nil c0
  obtain ⟨n0_0, rfl, g0_0⟩ := cell_int Try.underlying3 k0_0
  obtain ⟨n0_1, rfl, g0_1⟩ := cell_int Try.underlying3 k0_1
  obtain ⟨n0_2, rfl, g0_2⟩ := cell_int Try.underlying3 k0_2
  obtain ⟨l2, rfl, c2⟩ := open_agg (ts := [9, 9, 9, 9]) (by rw [Try.underlying40]) (by kernel_rfl) (by kernel_rfl) (hval 2 40 v2 rfl rfl)
  obtain ⟨x2_0, l2_0, rfl, k2_0, c2⟩ := cells_cons c2
  obtain ⟨x2_1, l2_1, rfl, k2_1, c2⟩ := cells_cons c2
  obtain ⟨x2_2, l2_2, rfl, k2_2, c2⟩ := cells_cons c2
  obtain ⟨x2_3, l2_3, rfl, k2_3, c2⟩ := cells_cons c2
  obtain rfl := cells_nil c2
  obtain ⟨n2_0, rfl, g2_0⟩ := cell_str Try.underlying9 k2_0
  obtain ⟨n2_1, rfl, g2_1⟩ := cell_str Try.underlying9 k2_1
  obtain ⟨n2_2, rfl, g2_2⟩ := cell_str Try.underlying9 k2_2
  obtain ⟨n2_3, rfl, g2_3⟩ := cell_str Try.underlying9 k2_3
  obtain ⟨l3, rfl, c3⟩ := open_agg (ts := [9, 9, 9, 9]) (by rw [Try.underlying40]) (by kernel_rfl) (by kernel_rfl) (hval 3 40 v3 rfl rfl)
  obtain ⟨x3_0, l3_0, rfl, k3_0, c3⟩ := cells_cons c3
  obtain ⟨x3_1, l3_1, rfl, k3_1, c3⟩ := cells_cons c3
  obtain ⟨x3_2, l3_2, rfl, k3_2, c3⟩ := cells_cons c3
  obtain ⟨x3_3, l3_3, rfl, k3_3, c3⟩ := cells_cons c3
  obtain rfl := cells_nil c3
  obtain ⟨n3_0, rfl, g3_0⟩ := cell_str Try.underlying9 k3_0
  obtain ⟨n3_1, rfl, g3_1⟩ := cell_str Try.underlying9 k3_1
  obtain ⟨n3_2, rfl, g3_2⟩ := cell_str Try.underlying9 k3_2
  obtain ⟨n3_3, rfl, g3_3⟩ := cell_str Try.underlying9 k3_3
  exact walk n0_0 n0_1 n0_2 n1 n2_0 n2_1 n2_2 n2_3 n3_0 n3_1 n3_2 n3_3 n4 n5 W
theorem over : Rows.rowRightRow.holds Try.pinned (OpenSpec.ofChange Rows.rowRightSpec) :=
  OpenClaim.holds_of_wide 6 Try.f6 rfl rfl rfl rfl rfl rfl rfl ⟨rfl, rfl, rfl, rfl, rfl⟩ rfl rfl rfl rfl rfl (by kernel_rfl) Try.func6 (by kernel_rfl)
    (of_decide_eq_true (by kernel_rfl)) (by unfold Func.isWrapper; first | (rw [if_pos (by decide +kernel)]; kernel_rfl) | (rw [if_neg (by decide +kernel)]; exact ⟨rfl, rfl⟩))
    (fun os started H enc _ => lifted os started H enc)
theorem proved : Rows.RowRightSaid :=
  over
#print axioms proved
end Go.Proofs.Ytjikaankdnmabaa.rowRight
