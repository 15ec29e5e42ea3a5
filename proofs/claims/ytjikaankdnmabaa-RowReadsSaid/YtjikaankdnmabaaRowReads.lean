/- RowReads: for every input the law returns true and its arguments are as they were. No condition. -/
import Derived.Test.YtjikaankdnmabaaRows
import Derived.WalkKit
import Derived.ProofKit
import Derived.OpenShut
import Derived.ChangeMaps5
import Derived.Test.YtjikaankdnmabaaCodeR
import Derived.Test.YtjikaankdnmabaaVJ
namespace Go.Proofs.Ytjikaankdnmabaa.rowReads
open Go Go.AM Go.ChangeShapes Go.WideShapes Go.ChangeAt Go.RowKit
set_option linter.unusedVariables false
set_option maxRecDepth 100000

theorem own : ownKnob Try.prog.godebug = none := by kernel_rfl
theorem laidOut : laidOutB Try.prog = true := by kernel_rfl
theorem rowed : mapsRowed Try.prog = true := by kernel_rfl
theorem sized : szB Try.prog = true := by kernel_rfl

/-- The law's own examples come out right. -/
theorem awakeRun : callD boolAns ft.get lastF 60 Ys.none (.func (.func 9) [] []) [] ⟨0, .leaf⟩ endB = true := by kernel_rfl
theorem awakeCalls (w : World) : Calls Try.prog 9 #[] w fun e w' => e = .returned (.bool true) ∧ Stays w w' :=
  closed_calls Try.checked.mixed ftOk (f := 9) (af := c9) rfl awakeRun w
theorem l3 : LastOk Try.prog la3 id := la3_ok Try.checked.mixed ok61 ok47 ok27
theorem lr : LastOk Try.prog (lastL 19 S19s (lastL 20 S19s la0)) id := lr_ok Try.checked.mixed (la30_ok Try.checked.mixed l3 (la57_ok Try.checked.mixed ok57) ok30 ok39) ok19 ok20
theorem l21 : LastOk Try.prog la21 id := la21_ok Try.checked.mixed lr ok32 ok28 ok46
theorem tv : TabOk Try.prog tbV := tbV_ok ok41 ok51 ok58 ok32 ok44 ok62 ok45
theorem l5 : LastOk Try.prog la5 id := lastC_ok (callable_fok ok8) (S8_ok Try.checked.mixed ok8) (lastC_ok (callable_fok ok21) (S21_ok Try.checked.mixed tv l21 ok21) (lastC_ok (callable_fok ok22) (S22_ok Try.checked.mixed tv l21 ok22) (lastW_ok ok9 awakeCalls lr)))
theorem t14 : TabOk Try.prog tb14 := by
  intro f af h
  unfold tb14 at h
  cases e : Nat.beq f 14 with
  | true => rw [e] at h; cases h; rw [Nat.eq_of_beq_eq_true e]; exact ok14
  | false => rw [e] at h; cases h
theorem walk (l m r s : Int) (b0 b1 b2 b3 : Bool) (x : Int) (v : Value) {w : World} (hv : IsMapIS w v) : Calls Try.prog 5 #[.agg #[.int .i64 l, .int .i64 m, .int .i64 r], .int .i64 s, .agg #[.bool b0, .bool b1, .bool b2, .bool b3], .int .i64 x, v] w fun e w' => e = .returned (.bool true) ∧ Stays w w' := by
  rcases hv with rfl | ⟨b, es, c, L, rfl, hb, he, hl, hn⟩
  · exact calls_plain (conOk_walk Try.checked.mixed ok5 (callD_sound pHolds Try.checked.mixed t14 l5 5) (law50_walk Ys.none l m r s x b0 b1 b2 b3)) (.cons (.agg (.cons (.int _ _) (.cons (.int _ _) (.cons (.int _ _) .nil)))) (.cons (.int _ _) (.cons (.agg (.cons (.bool _) (.cons (.bool _) (.cons (.bool _) (.cons (.bool _) .nil))))) (.cons (.int _ _) (.cons .nilmap .nil)))))
  · exact calls_map (conOk_walk Try.checked.mixed ok5 (callD_sound pHolds Try.checked.mixed t14 l5 5) (law5_walk Ys.none l m r s x b0 b1 b2 b3 L c hl hn)) hb he (.cons (.agg (.cons (.int _ _) (.cons (.int _ _) (.cons (.int _ _) .nil)))) (.cons (.int _ _) (.cons (.agg (.cons (.bool _) (.cons (.bool _) (.cons (.bool _) (.cons (.bool _) .nil))))) (.cons (.int _ _) (.cons (.map (i := ⟨b, 0, 0, none⟩) rfl) .nil)))))

theorem lifted (os : Os) (started : os.Started) (H : Type) (enc : TypeId × Value → H) :
    ReturnsInHanded {} Try.checked os 5 .any (Rows.rowReadsSpec.pre6 enc Try.prog Try.f5 Rows.rowReadsRow.domain false) (Rows.rowReadsSpec.post enc Try.prog Try.f5 false true false false) := by
  refine law_lifted (C := Try.checked) (tb := 4) own started (by kernel_rfl) Try.func5
    (ChangeSpec.witness6 (enc := enc) (C := Try.checked) false ⟨#[], #[.agg #[.int .i64 0, .int .i64 0, .int .i64 0], .int .i64 0, .agg #[.bool false, .bool false, .bool false, .bool false], .int .i64 0, .map none], []⟩ 8 (by kernel_rfl) (by kernel_rfl) (by kernel_rfl) (by kernel_rfl))
    laidOut rowed sized (by kernel_rfl) rfl Try.underlying4 rfl (fun ds h => match ds, h with | [_, _, _, _, _], _ => ⟨rfl, rfl, rfl⟩) ?_
  intro W base args ds p hval0 hA0
  have hval : ∀ (j : Nat) t v, Try.f5.params[j]? = some t → args[j]? = some v → Value.okWide Try.prog W .any base t v := hval0
  have hA : DataW.TrodAll enc Try.prog W 0 (fun _ => true) true Try.f5.params.toList args.toList ds p := hA0
  clear hval0 hA0
  rw [Try.params5] at hA hval
  obtain ⟨v0, vs0, d0, ds0, p0, q0, e0, rfl, rfl, h0, hA⟩ := trodAll_cons hA
  obtain ⟨v1, vs1, d1, ds1, p1, q1, e1, rfl, rfl, h1, hA⟩ := trodAll_cons hA
  obtain ⟨v2, vs2, d2, ds2, p2, q2, e2, rfl, rfl, h2, hA⟩ := trodAll_cons hA
  obtain ⟨v3, vs3, d3, ds3, p3, q3, e3, rfl, rfl, h3, hA⟩ := trodAll_cons hA
  obtain ⟨v4, vs4, d4, ds4, p4, q4, e4, rfl, rfl, h4, hA⟩ := trodAll_cons hA
  obtain ⟨e5, rfl, rfl⟩ := trodAll_nil hA
  subst e5
  subst e4
  subst e3
  subst e2
  subst e1
  have ha : args = #[v0, v1, v2, v3, v4] := by cases args; simp_all
  subst ha
  obtain ⟨n1, rfl, -, -, w1⟩ := open_int Try.underlying3 (hval 1 3 v1 rfl rfl) h1
  obtain ⟨n3, rfl, -, -, w3⟩ := open_int Try.underlying3 (hval 3 3 v3 rfl rfl) h3
  have m4 := open_gotIS Try.underlying25 Try.underlying3 Try.underlying9 (hval 4 25 v4 rfl rfl) h4
  obtain ⟨l0, rfl, c0⟩ := open_agg (ts := [3, 3, 3]) (by rw [Try.underlying23]) (by kernel_rfl) (by kernel_rfl) (hval 0 23 v0 rfl rfl)
  obtain ⟨x0_0, l0_0, rfl, k0_0, c0⟩ := cells_cons c0
  obtain ⟨x0_1, l0_1, rfl, k0_1, c0⟩ := cells_cons c0
  obtain ⟨x0_2, l0_2, rfl, k0_2, c0⟩ := cells_cons c0
  obtain rfl := cells_nil c0
  obtain ⟨n0_0, rfl, g0_0⟩ := cell_int Try.underlying3 k0_0
  obtain ⟨n0_1, rfl, g0_1⟩ := cell_int Try.underlying3 k0_1
  obtain ⟨n0_2, rfl, g0_2⟩ := cell_int Try.underlying3 k0_2
  obtain ⟨l2, rfl, c2⟩ := open_agg (ts := [4, 4, 4, 4]) (by rw [Try.underlying24]) (by kernel_rfl) (by kernel_rfl) (hval 2 24 v2 rfl rfl)
  obtain ⟨x2_0, l2_0, rfl, k2_0, c2⟩ := cells_cons c2
  obtain ⟨x2_1, l2_1, rfl, k2_1, c2⟩ := cells_cons c2
  obtain ⟨x2_2, l2_2, rfl, k2_2, c2⟩ := cells_cons c2
  obtain ⟨x2_3, l2_3, rfl, k2_3, c2⟩ := cells_cons c2
  obtain rfl := cells_nil c2
  obtain ⟨n2_0, rfl⟩ := cell_bool Try.underlying4 k2_0
  obtain ⟨n2_1, rfl⟩ := cell_bool Try.underlying4 k2_1
  obtain ⟨n2_2, rfl⟩ := cell_bool Try.underlying4 k2_2
  obtain ⟨n2_3, rfl⟩ := cell_bool Try.underlying4 k2_3
  exact walk n0_0 n0_1 n0_2 n1 n2_0 n2_1 n2_2 n2_3 n3 v4 m4

theorem over : Rows.rowReadsRow.holds Try.pinned (OpenSpec.ofChange Rows.rowReadsSpec) :=
  OpenClaim.holds_of_wide 5 Try.f5 rfl rfl rfl rfl rfl rfl rfl ⟨rfl, rfl, rfl, rfl, rfl⟩ rfl rfl rfl rfl rfl (by kernel_rfl) Try.func5 (by kernel_rfl)
    (of_decide_eq_true (by kernel_rfl)) (by unfold Func.isWrapper; first | (rw [if_pos (by decide +kernel)]; kernel_rfl) | (rw [if_neg (by decide +kernel)]; exact ⟨rfl, rfl⟩))
    (fun os started H enc _ => lifted os started H enc)

/-- The statement. -/
theorem proved : Rows.RowReadsSaid :=
  over
#print axioms proved
end Go.Proofs.Ytjikaankdnmabaa.rowReads
