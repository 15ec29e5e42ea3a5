/- RowFew: for every input the law returns true and its arguments are as they were. No condition. -/
import Derived.Test.YtjikaankdnmabaaRows
import Derived.WalkKit
import Derived.ProofKit
import Derived.OpenShut
import Derived.ChangeMaps5
import Derived.Test.YtjikaankdnmabaaCodeF
import Derived.Test.YtjikaankdnmabaaWRa
import Derived.Test.YtjikaankdnmabaaWRb
import Derived.Test.YtjikaankdnmabaaWRc
import Derived.Test.YtjikaankdnmabaaWRd
import Derived.Test.YtjikaankdnmabaaWRe
namespace Go.Proofs.Ytjikaankdnmabaa.rowFew
open Go Go.AM Go.ChangeShapes Go.WideShapes Go.ChangeAt Go.RowKit
set_option linter.unusedVariables false
set_option maxRecDepth 100000

theorem own : ownKnob Try.prog.godebug = none := by kernel_rfl
theorem laidOut : laidOutB Try.prog = true := by kernel_rfl
theorem rowed : mapsRowed Try.prog = true := by kernel_rfl
theorem sized : szB Try.prog = true := by kernel_rfl

/-- The law's own examples come out right. -/
theorem awakeRun : callD boolAns ft.get lastF 60 Ys.none (.func (.func 9) [] []) [] ⟨0, .leaf⟩ endB = true := by kernel_rfl
theorem awakeCalls (w : World) : Calls Try.prog 9 #[] w fun e w' => e = .returned (.bool true) ∧ Stays w w' :=
  closed_calls Try.checked.mixed ftOk (f := 9) (af := c9) rfl awakeRun w
theorem one {s : Nat × Nat × Nat} (hs : s ∈ shapes) {rows r : Int} (ho : roB (.ofNat s.1) (.ofNat s.2.1) rows r = true) (hp : pz (.ofNat s.1) (.ofNat s.2.1) rows r = .ofNat s.2.2) {n : Nat} (hn : n < 256) {bs : List Nat} {a c b : Nat} (hb : b ∈ bs)
    (hr : runsL s.1 s.2.1 s.2.2 rows r (.ofNat n) bs = .ok (List.replicate a [geo (.ofNat s.1) (.ofNat s.2.1) rows, .int .i64 r]) (List.replicate c [.int .u8 (.ofNat n)])) {b0 b1 b2 b3 : Bool} (e0 : bit b 0 = b0) (e1 : bit b 1 = b1) (e2 : bit b 2 = b2) (e3 : bit b 3 = b3) (w : World) :
    Calls Try.prog 4 #[.agg #[.int .i64 (.ofNat s.1), .int .i64 (.ofNat s.2.1), .int .i64 rows], .int .i64 r, .agg #[.bool b0, .bool b1, .bool b2, .bool b3], .int .u8 (.ofNat n)] w fun e w' => e = .returned (.bool true) ∧ Stays w w' := by
  subst e0; subst e1; subst e2; subst e3
  have h := runs_one (obH_replicate hr) hb (Nat.mod_lt n (Nat.two_pow_pos (s.2.1 - 1)))
  exact said_calls (d := 59) Try.checked.mixed (tabX_ok ftOk) (lastX_ok Try.checked.mixed ftOk awakeCalls ok17 ok18 ok9 ok16 ok27 ok47 ok61 hs hn ho hp) (f := 4) (af := c4) rfl
    (.cons (.agg (.cons (.int _ _) (.cons (.int _ _) (.cons (.int _ _) .nil)))) (.cons (.int _ _) (.cons (.agg (.cons (.bool _) (.cons (.bool _) (.cons (.bool _) (.cons (.bool _) .nil))))) (.cons (.int _ _) .nil)))) h w
theorem walk (l m rows r : Int) (b0 b1 b2 b3 : Bool) (k : Int) (hk : (Lit.int .u8 k).wf = true) (w : World) :
    Calls Try.prog 4 #[.agg #[.int .i64 l, .int .i64 m, .int .i64 rows], .int .i64 r, .agg #[.bool b0, .bool b1, .bool b2, .bool b3], .int .u8 k] w fun e w' => e = .returned (.bool true) ∧ Stays w w' := by
  have h1 : (0 : Int) ≤ k ∧ k ≤ 255 := by
    simp only [Lit.wf, Bool.and_eq_true, decide_eq_true_eq] at hk
    exact hk
  obtain ⟨n, rfl⟩ := Int.eq_ofNat_of_zero_le h1.1
  have hn : n < 256 := by have := h1.2; omega
  cases ho : roB l m rows r with
  | false =>
    exact said_calls (d := 59) Try.checked.mixed (tabN_ok ftOk) (lastN_ok Try.checked.mixed ftOk awakeCalls ok18 ok9 ok16 ok27 ok47 ok61 ho) (f := 4) (af := c4) rfl
      (.cons (.agg (.cons (.int _ _) (.cons (.int _ _) (.cons (.int _ _) .nil)))) (.cons (.int _ _) (.cons (.agg (.cons (.bool _) (.cons (.bool _) (.cons (.bool _) (.cons (.bool _) .nil))))) (.cons (.int _ _) .nil)))) (obH_replicate (runN_eq l m rows r ((n : Nat) : Int) b0 b1 b2 b3)) w
  | true =>
    obtain ⟨b, hb, e0, e1, e2, e3⟩ := bit_of b0 b1 b2 b3
    have pr := pz_rng ho
    obtain ⟨g, s0, s1⟩ := ro_t.1 ho
    have g' := g
    obtain ⟨h1, h2, h3, h4⟩ := g
    have h16 : b ∈ List.range 16 := List.mem_range.2 hb
    have hbs : b ∈ [15, 14] ∨ b ∈ [13, 11, 7] ∨ b ∈ [0, 1, 2, 3, 4, 5, 6, 8, 9, 10, 12] := by
      simp only [List.mem_cons, List.not_mem_nil, or_false]; omega
    rcases h1 with ⟨rfl, rfl⟩ | ⟨rfl, rfl | rfl⟩
    · exact one (s := (1, 2, 1)) (by decide) ho (pz_1 g' s0 s1) hn h16 (runs_2_1 _ _ _) e0 e1 e2 e3 w
    · have hc : pz 5 3 rows r = 0 ∨ pz 5 3 rows r = 1 ∨ pz 5 3 rows r = 2 := by omega
      rcases hc with hp | hp | hp
      · exact one (s := (5, 3, 0)) (by decide) ho hp hn h16 (runs_3_0 _ _ _) e0 e1 e2 e3 w
      · exact one (s := (5, 3, 1)) (by decide) ho hp hn h16 (runs_3_1 _ _ _) e0 e1 e2 e3 w
      · exact one (s := (5, 3, 2)) (by decide) ho hp hn h16 (runs_3_2 _ _ _) e0 e1 e2 e3 w
    · have hc : pz 5 4 rows r = 0 ∨ pz 5 4 rows r = 1 ∨ pz 5 4 rows r = 2 ∨ pz 5 4 rows r = 3 := by omega
      rcases hc with hp | hp | hp | hp
      · rcases hbs with hb | hb | hb
        · exact one (s := (5, 4, 0)) (by decide) ho hp hn hb (runs_4_0a _ _ _) e0 e1 e2 e3 w
        · exact one (s := (5, 4, 0)) (by decide) ho hp hn hb (runs_4_0b _ _ _) e0 e1 e2 e3 w
        · exact one (s := (5, 4, 0)) (by decide) ho hp hn hb (runs_4_0c _ _ _) e0 e1 e2 e3 w
      · rcases hbs with hb | hb | hb
        · exact one (s := (5, 4, 1)) (by decide) ho hp hn hb (runs_4_1a _ _ _) e0 e1 e2 e3 w
        · exact one (s := (5, 4, 1)) (by decide) ho hp hn hb (runs_4_1b _ _ _) e0 e1 e2 e3 w
        · exact one (s := (5, 4, 1)) (by decide) ho hp hn hb (runs_4_1c _ _ _) e0 e1 e2 e3 w
      · rcases hbs with hb | hb | hb
        · exact one (s := (5, 4, 2)) (by decide) ho hp hn hb (runs_4_2a _ _ _) e0 e1 e2 e3 w
        · exact one (s := (5, 4, 2)) (by decide) ho hp hn hb (runs_4_2b _ _ _) e0 e1 e2 e3 w
        · exact one (s := (5, 4, 2)) (by decide) ho hp hn hb (runs_4_2c _ _ _) e0 e1 e2 e3 w
      · rcases hbs with hb | hb | hb
        · exact one (s := (5, 4, 3)) (by decide) ho hp hn hb (runs_4_3a _ _ _) e0 e1 e2 e3 w
        · exact one (s := (5, 4, 3)) (by decide) ho hp hn hb (runs_4_3b _ _ _) e0 e1 e2 e3 w
        · exact one (s := (5, 4, 3)) (by decide) ho hp hn hb (runs_4_3c _ _ _) e0 e1 e2 e3 w

theorem lifted (os : Os) (started : os.Started) (H : Type) (enc : TypeId × Value → H) :
    ReturnsInHanded {} Try.checked os 4 .any (Rows.rowFewSpec.pre6 enc Try.prog Try.f4 Rows.rowFewRow.domain false) (Rows.rowFewSpec.post enc Try.prog Try.f4 false true false false) := by
  refine law_lifted (C := Try.checked) (tb := 4) own started (by kernel_rfl) Try.func4
    (ChangeSpec.witness6 (enc := enc) (C := Try.checked) false ⟨#[], #[.agg #[.int .i64 0, .int .i64 0, .int .i64 0], .int .i64 0, .agg #[.bool false, .bool false, .bool false, .bool false], .int .u8 0], []⟩ 8 (by kernel_rfl) (by kernel_rfl) (by kernel_rfl) (by kernel_rfl))
    laidOut rowed sized (by kernel_rfl) rfl Try.underlying4 rfl (fun ds h => match ds, h with | [_, _, _, _], _ => ⟨rfl, rfl, rfl⟩) ?_
  intro W base args ds p hval0 hA0
  have hval : ∀ (j : Nat) t v, Try.f4.params[j]? = some t → args[j]? = some v → Value.okWide Try.prog W .any base t v := hval0
  have hA : DataW.TrodAll enc Try.prog W 0 (fun _ => true) true Try.f4.params.toList args.toList ds p := hA0
  clear hval0 hA0
  rw [Try.params4] at hA hval
  obtain ⟨v0, vs0, d0, ds0, p0, q0, e0, rfl, rfl, h0, hA⟩ := trodAll_cons hA
  obtain ⟨v1, vs1, d1, ds1, p1, q1, e1, rfl, rfl, h1, hA⟩ := trodAll_cons hA
  obtain ⟨v2, vs2, d2, ds2, p2, q2, e2, rfl, rfl, h2, hA⟩ := trodAll_cons hA
  obtain ⟨v3, vs3, d3, ds3, p3, q3, e3, rfl, rfl, h3, hA⟩ := trodAll_cons hA
  obtain ⟨e4, rfl, rfl⟩ := trodAll_nil hA
  subst e4
  subst e3
  subst e2
  subst e1
  have ha : args = #[v0, v1, v2, v3] := by cases args; simp_all
  subst ha
  obtain ⟨n1, rfl, -, -, w1⟩ := open_int Try.underlying3 (hval 1 3 v1 rfl rfl) h1
  obtain ⟨n3, rfl, -, -, w3⟩ := open_int Try.underlying5 (hval 3 5 v3 rfl rfl) h3
  obtain ⟨l0, rfl, c0⟩ := open_agg (ts := [3, 3, 3]) (by rw [Try.underlying23]) (by kernel_rfl) (by kernel_rfl) (hval 0 23 v0 rfl rfl)
  obtain ⟨x0_0, l0_0, rfl, k0_0, c0⟩ := cells_cons c0
  obtain ⟨x0_1, l0_1, rfl, k0_1, c0⟩ := cells_cons c0
  obtain ⟨x0_2, l0_2, rfl, k0_2, c0⟩ := cells_cons c0
  obtain rfl := cells_nil c0
  obtain ⟨n0_0, rfl, g0_0⟩ := cell_int Try.underlying3 k0_0
  obtain ⟨n0_1, rfl, g0_1⟩ := cell_int Try.underlying3 k0_1
  obtain ⟨n0_2, rfl, g0_2⟩ := cell_int Try.underlying3 k0_2
  obtain ⟨l2, rfl, c2⟩ := open_agg (ts := [4, 4, 4, 4]) (by rw [Try.underlying24]) (by kernel_rfl) (by kernel_rfl) (hval 2 24 v2 rfl rfl)
  obtain ⟨x2_0, l2_0, rfl, k2_0, c2⟩ := cells_cons c2
  obtain ⟨x2_1, l2_1, rfl, k2_1, c2⟩ := cells_cons c2
  obtain ⟨x2_2, l2_2, rfl, k2_2, c2⟩ := cells_cons c2
  obtain ⟨x2_3, l2_3, rfl, k2_3, c2⟩ := cells_cons c2
  obtain rfl := cells_nil c2
  obtain ⟨n2_0, rfl⟩ := cell_bool Try.underlying4 k2_0
  obtain ⟨n2_1, rfl⟩ := cell_bool Try.underlying4 k2_1
  obtain ⟨n2_2, rfl⟩ := cell_bool Try.underlying4 k2_2
  obtain ⟨n2_3, rfl⟩ := cell_bool Try.underlying4 k2_3
  exact walk n0_0 n0_1 n0_2 n1 n2_0 n2_1 n2_2 n2_3 n3 w3 W

theorem over : Rows.rowFewRow.holds Try.pinned (OpenSpec.ofChange Rows.rowFewSpec) :=
  OpenClaim.holds_of_wide 4 Try.f4 rfl rfl rfl rfl rfl rfl rfl ⟨rfl, rfl, rfl, rfl, rfl⟩ rfl rfl rfl rfl rfl (by kernel_rfl) Try.func4 (by kernel_rfl)
    (of_decide_eq_true (by kernel_rfl)) (by unfold Func.isWrapper; first | (rw [if_pos (by decide +kernel)]; kernel_rfl) | (rw [if_neg (by decide +kernel)]; exact ⟨rfl, rfl⟩))
    (fun os started H enc _ => lifted os started H enc)

/-- The statement. -/
theorem proved : Rows.RowFewSaid :=
  over
#print axioms proved
end Go.Proofs.Ytjikaankdnmabaa.rowFew
