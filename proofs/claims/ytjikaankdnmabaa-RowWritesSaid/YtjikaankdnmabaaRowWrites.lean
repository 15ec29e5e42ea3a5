/- RowWrites: for every input the law returns true and its arguments are as they were. No condition. -/
import Derived.Test.YtjikaankdnmabaaRows
import Derived.WalkKit
import Derived.ProofKit
import Derived.OpenShut
import Derived.ChangeMaps5
import Derived.Test.YtjikaankdnmabaaCodeRW
import Derived.Test.YtjikaankdnmabaaDJ
import Derived.Test.YtjikaankdnmabaaShelfP
namespace Go.Proofs.Ytjikaankdnmabaa.rowWrites
open Go Go.AM Go.ChangeShapes Go.WideShapes Go.ChangeAt Go.RowKit
set_option linter.unusedVariables false
set_option maxRecDepth 100000
theorem own : ownKnob Try.prog.godebug = none := by kernel_rfl
theorem laidOut : laidOutB Try.prog = true := by kernel_rfl
theorem rowed : mapsRowed Try.prog = true := by kernel_rfl
theorem sized : szB Try.prog = true := by kernel_rfl
theorem awakeRun : callD boolAns ft.get lastF 60 Ys.none (.func (.func 9) [] []) [] ⟨0, .leaf⟩ endB = true := by kernel_rfl
theorem awakeCalls (w : World) : Calls Try.prog 9 #[] w fun e w' => e = .returned (.bool true) ∧ Stays w w' :=
  closed_calls Try.checked.mixed ftOk (f := 9) (af := c9) rfl awakeRun w
theorem l3 : LastOk Try.prog la3 id := la3_ok Try.checked.mixed ok61 ok47 ok27
theorem l57 : LastOk Try.prog la57 id := la57_ok Try.checked.mixed ok57
theorem h8 : ∀ C, S8 C → C.wf = true → ConOk Try.prog 8 C := S8_ok Try.checked.mixed ok8
theorem h28 : ∀ C, S28 C → C.wf = true → ConOk Try.prog 28 C := S28_ok Try.checked.mixed ok32 ok28
theorem h46 : ∀ C, S46 C → C.wf = true → ConOk Try.prog 46 C := S46_ok Try.checked.mixed ok32 ok46
theorem call53 : Callable Try.prog 53 := callable_fok ok53
theorem h53 : ∀ C, S53 C → C.wf = true → ConOk Try.prog 53 C := s53_ok Try.checked.mixed (sS_ok Try.slices_Sort_int) ok63 ok64 ok65 ok75 ok53
theorem h37 : ∀ C, S37 C → C.wf = true → ConOk Try.prog 37 C := s37_ok Try.checked.mixed ok54 ok55 ok37
theorem h35 : ∀ C, S35 C → C.wf = true → ConOk Try.prog 35 C := s35_ok Try.checked.mixed h37 h53 (callable_fok ok37) call53 ok35
theorem h49 : ∀ C, S49 C → C.wf = true → ConOk Try.prog 49 C := s49_ok Try.checked.mixed ok50 ok62 ok49
theorem l16 : LastOk Try.prog (lastL 16 S16s la0) id := l16_ok Try.checked.mixed ok61 ok47 ok27 ok16 la0_ok
theorem h33 : ∀ C, S33 C → C.wf = true → ConOk Try.prog 33 C := s33_ok Try.checked.mixed (la33_ok Try.checked.mixed h49 h35 (callable_fok ok49) (callable_fok ok35) l16) ok36 ok33
theorem h34 : ∀ C, S34 C → C.wf = true → ConOk Try.prog 34 C := s34_ok Try.checked.mixed ok52 ok51 ok62 ok34
theorem h31 : ∀ C, S31 C → C.wf = true → ConOk Try.prog 31 C := s31_ok Try.checked.mixed ok48 ok31
theorem l10 : LastOk Try.prog la10 id := la10_ok Try.checked.mixed h33 h34 h31 h35 (callable_fok ok33) (callable_fok ok34) (callable_fok ok31) (callable_fok ok35) ok55 ok56 ok37 l3 ok30 ok61 ok47 ok27 ok16
theorem h10 : ∀ C, S10 C → C.wf = true → ConOk Try.prog 10 C := s10_ok Try.checked.mixed l10 ok36 ok38 ok32 ok10
theorem h10g : ∀ C, S10g C → C.wf = true → ConOk Try.prog 10 C := s10g_ok Try.checked.mixed h10 l10 ok36 ok38 ok32 ok10
theorem l58 : LastOk Try.prog la58 id := la58_ok Try.checked.mixed ok32 ok58
theorem h41 : ∀ C, S41g C → C.wf = true → ConOk Try.prog 41 C := s41g_ok Try.checked.mixed (s41_ok Try.checked.mixed l58 ok51 ok62 ok41) l58 ok51 ok62 ok41
theorem h44 : ∀ C, S44g C → C.wf = true → ConOk Try.prog 44 C := s44g_ok Try.checked.mixed (s44_ok Try.checked.mixed ok44) ok44
theorem l12 : LastOk Try.prog la12 id := la12_ok h10g h41 h44 h28 (sq42_ok Try.checked.mixed ok59 ok60 ok42) (callable_fok ok10) (callable_fok ok41) (callable_fok ok44) (callable_fok ok28) (callable_fok ok42) (l27_ok Try.checked.mixed ok61 ok47 ok27)
theorem l11 : LastOk Try.prog la11 id := la11_ok Try.checked.mixed l57 ok39 ok40
theorem h11g : ∀ C, S10g C → C.wf = true → ConOk Try.prog 11 C := s11g_ok Try.checked.mixed (s11_ok Try.checked.mixed l11 ok11) l11 ok11
theorem h45 : ∀ C, S45g C → C.wf = true → ConOk Try.prog 45 C := s45g_ok Try.checked.mixed (s45_ok Try.checked.mixed ok45) ok45
theorem l13 : LastOk Try.prog la13 id := lastC_ok (callable_fok ok11) h11g (lastC_ok (callable_fok ok45) h45 (lastC_ok (callable_fok ok46) h46 (l40_ok Try.checked.mixed ok40 la0_ok)))
theorem h14 : ∀ C, S14 C → C.wf = true → ConOk Try.prog 14 C := s14_ok Try.checked.mixed ok14
theorem h15 : ∀ C, S15 C → C.wf = true → ConOk Try.prog 15 C := s15_ok Try.checked.mixed ok15
theorem l9 : LastOk Try.prog (lastC 14 S14 (lastC 15 S15 (lastW 9 la0))) id := lastC_ok (callable_fok ok14) h14 (lastC_ok (callable_fok ok15) h15 (lastW_ok ok9 awakeCalls la0_ok))
theorem h8g : ∀ C, S8g C → C.wf = true → ConOk Try.prog 8 C := s8g_ok h8
theorem sq12_pre : ∀ Q C, SQ12 Q C → ∀ x y, (C x).pre = (C y).pre := fun Q C h x y => by cases h; rfl
theorem l3e : LastOk Try.prog la3e id := lastC_ok (callable_fok ok8) h8g (lastC_ok (callable_fok ok10) h10g (lastC_ok (callable_fok ok11) h11g (lastC_ok (callable_fok ok12) (s12_ok Try.checked.mixed l12 ok43 ok12) (lastC_ok (callable_fok ok13) (s13_ok Try.checked.mixed l13 ok13) l9))))
theorem l3o : LastOk Try.prog la3o id := lastC_ok (callable_fok ok8) h8g (lastC_ok (callable_fok ok10) h10g (lastC_ok (callable_fok ok11) h11g (lastQ_ok (callable_fok ok12) sq12_pre (sq12_ok Try.checked.mixed l12 ok43 ok12) (lastQ_ok (callable_fok ok13) sq12_pre (sq13_ok Try.checked.mixed l13 ok13) l9))))
theorem val_img {r0 r1 r : Option Img} {v : Value} {L : List (Int × List Nat × Nat)} {k : Nat} (hk : ren2 r0 r1 k = r) (h : (r = none ∧ v = .map none ∧ L = []) ∨ ∃ i, r = some i ∧ v = .map (some i.b)) : ∃ x : V, (x = .map k ∨ (x = .nilmap ∧ L = [])) ∧ VR (ren2 r0 r1) x v := by
  rcases h with ⟨_, rfl, rfl⟩ | ⟨i, rfl, rfl⟩
  · exact ⟨.nilmap, .inr ⟨rfl, rfl⟩, .nilmap⟩
  · exact ⟨.map k, .inl rfl, .map hk⟩
theorem walk (l m r s : Int) (b0 b1 b2 b3 : Bool) (v1 : Value) {w : World} (h1 : IsMapK w v1) (v2 : Value) (h2 : IsMapK w v2) : Calls Try.prog 3 #[.agg #[.int .i64 l, .int .i64 m, .int .i64 r], .int .i64 s, .agg #[.bool b0, .bool b1, .bool b2, .bool b3], v1, v2] w fun e w' => e = .returned (.bool true) ∧ Stays w w' := by
  obtain ⟨r0, c, L, e0, lt, st, ks, o0⟩ := mapK_img h1
  obtain ⟨r1, c2, G, e1, lt2, st2, _, o1⟩ := mapK_img h2
  obtain ⟨wv, hw, x0⟩ := val_img (r0 := r0) (r1 := r1) (k := 0) rfl o0
  obtain ⟨gv, hg, x1⟩ := val_img (r0 := r0) (r1 := r1) (k := 1) rfl o1
  exact calls_two (s3_ok Try.checked.mixed l3e l3o ok3 l m r s b0 b1 b2 b3 L c true G c2 true gv wv hg hw lt st ks lt2 st2) e0 e1
    (.cons (.agg (.cons (.int _ _) (.cons (.int _ _) (.cons (.int _ _) .nil)))) (.cons (.int _ _) (.cons (.agg (.cons (.bool _) (.cons (.bool _) (.cons (.bool _) (.cons (.bool _) .nil))))) (.cons x0 (.cons x1 .nil)))))
theorem lifted (os : Os) (started : os.Started) (H : Type) (enc : TypeId × Value → H) :
    ReturnsInHanded {} Try.checked os 3 .any (Rows.rowWritesSpec.pre6 enc Try.prog Try.f3 Rows.rowWritesRow.domain false) (Rows.rowWritesSpec.post enc Try.prog Try.f3 false true false false) := by
  refine law_lifted (C := Try.checked) (tb := 4) own started (by kernel_rfl) Try.func3
    (ChangeSpec.witness6 (enc := enc) (C := Try.checked) false ⟨#[], #[.agg #[.int .i64 0, .int .i64 0, .int .i64 0], .int .i64 0, .agg #[.bool false, .bool false, .bool false, .bool false], .map none, .map none], []⟩ 8 (by kernel_rfl) (by kernel_rfl) (by kernel_rfl) (by kernel_rfl))
    laidOut rowed sized (by kernel_rfl) rfl Try.underlying4 rfl (fun ds h => match ds, h with | [_, _, _, _, _], _ => ⟨rfl, rfl, rfl⟩) ?_
  intro W base args ds p hval0 hA0
  have hval : ∀ (j : Nat) t v, Try.f3.params[j]? = some t → args[j]? = some v → Value.okWide Try.prog W .any base t v := hval0
  have hA : DataW.TrodAll enc Try.prog W 0 (fun _ => true) true Try.f3.params.toList args.toList ds p := hA0
  clear hval0 hA0
  rw [Try.params3] at hA hval
  obtain ⟨v0, vs0, d0, ds0, p0, q0, e0, rfl, rfl, h0, hA⟩ := trodAll_cons hA
  obtain ⟨v1, vs1, d1, ds1, p1, q1, e1, rfl, rfl, h1, hA⟩ := trodAll_cons hA
  obtain ⟨v2, vs2, d2, ds2, p2, q2, e2, rfl, rfl, h2, hA⟩ := trodAll_cons hA
  obtain ⟨v3, vs3, d3, ds3, p3, q3, e3, rfl, rfl, h3, hA⟩ := trodAll_cons hA
  obtain ⟨v4, vs4, d4, ds4, p4, q4, e4, rfl, rfl, h4, hA⟩ := trodAll_cons hA
  obtain ⟨e5, rfl, rfl⟩ := trodAll_nil hA
  subst e5
  subst e4
  subst e3
  subst e2
  subst e1
  have ha : args = #[v0, v1, v2, v3, v4] := by cases args; simp_all
  subst ha
  obtain ⟨n1, rfl, -, -, w1⟩ := open_int Try.underlying3 (hval 1 3 v1 rfl rfl) h1
  have m3 := open_gotK Try.underlying25 Try.underlying3 Try.underlying9 (hval 3 25 v3 rfl rfl) h3
  have m4 := open_gotK Try.underlying25 Try.underlying3 Try.underlying9 (hval 4 25 v4 rfl rfl) h4
  obtain ⟨l0, rfl, c0⟩ := open_agg (ts := [3, 3, 3]) (by rw [Try.underlying23]) (by kernel_rfl) (by kernel_rfl) (hval 0 23 v0 rfl rfl)
  obtain ⟨x0_0, l0_0, rfl, k0_0, c0⟩ := cells_cons c0
  obtain ⟨x0_1, l0_1, rfl, k0_1, c0⟩ := cells_cons c0
  obtain ⟨x0_2, l0_2, rfl, k0_2, c0⟩ := cells_cons c0
  obtain rfl := cells_nil c0
  obtain ⟨n0_0, rfl, g0_0⟩ := cell_int Try.underlying3 k0_0
  obtain ⟨n0_1, rfl, g0_1⟩ := cell_int Try.underlying3 k0_1
  obtain ⟨n0_2, rfl, g0_2⟩ := cell_int Try.underlying3 k0_2
  obtain ⟨l2, rfl, c2⟩ := open_agg (ts := [4, 4, 4, 4]) (by rw [Try.underlying24]) (by kernel_rfl) (by kernel_rfl) (hval 2 24 v2 rfl rfl)
  obtain ⟨x2_0, l2_0, rfl, k2_0, c2⟩ := cells_cons c2
  obtain ⟨x2_1, l2_1, rfl, k2_1, c2⟩ := cells_cons c2
  obtain ⟨x2_2, l2_2, rfl, k2_2, c2⟩ := cells_cons c2
  obtain ⟨x2_3, l2_3, rfl, k2_3, c2⟩ := cells_cons c2
  obtain rfl := cells_nil c2
  obtain ⟨n2_0, rfl⟩ := cell_bool Try.underlying4 k2_0
  obtain ⟨n2_1, rfl⟩ := cell_bool Try.underlying4 k2_1
  obtain ⟨n2_2, rfl⟩ := cell_bool Try.underlying4 k2_2
  obtain ⟨n2_3, rfl⟩ := cell_bool Try.underlying4 k2_3
  exact walk n0_0 n0_1 n0_2 n1 n2_0 n2_1 n2_2 n2_3 v3 m3 v4 m4
theorem over : Rows.rowWritesRow.holds Try.pinned (OpenSpec.ofChange Rows.rowWritesSpec) :=
  OpenClaim.holds_of_wide 3 Try.f3 rfl rfl rfl rfl rfl rfl rfl ⟨rfl, rfl, rfl, rfl, rfl⟩ rfl rfl rfl rfl rfl (by kernel_rfl) Try.func3 (by kernel_rfl)
    (of_decide_eq_true (by kernel_rfl)) (by unfold Func.isWrapper; first | (rw [if_pos (by decide +kernel)]; kernel_rfl) | (rw [if_neg (by decide +kernel)]; exact ⟨rfl, rfl⟩))
    (fun os started H enc _ => lifted os started H enc)
theorem proved : Rows.RowWritesSaid :=
  over
#print axioms proved
end Go.Proofs.Ytjikaankdnmabaa.rowWrites
