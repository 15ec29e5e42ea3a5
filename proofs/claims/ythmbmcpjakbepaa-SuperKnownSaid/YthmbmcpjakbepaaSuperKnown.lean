/- SuperKnown: for every input the law returns true and its arguments are as they were. No condition. -/
import Derived.Test.YthmbmcpjakbepaaRows
import Derived.WalkKit
import Derived.ProofKit
import Derived.OpenShut
import Derived.ChangeMaps5
import Derived.Test.YthmbmcpjakbepaaCodeSu
import Derived.Test.YthmbmcpjakbepaaSum
import Derived.Test.YthmbmcpjakbepaaAM34
namespace Go.Proofs.Ythmbmcpjakbepaa.superKnown
open Go Go.AM Go.ChangeShapes Go.WideShapes Go.ChangeAt Go.RowKit
set_option linter.unusedVariables false
set_option maxRecDepth 100000

theorem own : ownKnob Try.prog.godebug = none := by kernel_rfl
theorem laidOut : laidOutB Try.prog = true := by kernel_rfl
theorem rowed : mapsRowed Try.prog = true := by kernel_rfl
theorem sized : szB Try.prog = true := by kernel_rfl

def sumS : List V → Option V
  | [.str s] => bif Nat.blt s.length 1099511627776 then some (.int .u32 ((sumOf s : Nat) : Int)) else none
  | _ => none
theorem sumS_ok : ∀ (ρ : Ren) (args : List V) (args' : List Value) (v : V), sumS args = some v → VRs ρ args args' → Answers Try.prog 30 args' v := by
  intro ρ args args' v h ha
  unfold sumS at h
  split at h
  · rename_i s
    obtain ⟨h1, h2⟩ := bif_some h
    cases h2
    cases ha with | cons hs hn =>
    cases hn
    cases hs with | str b =>
    have hl := nblt_iff.1 h1
    exact answers_of_walk Try.checked.mixed ok30 cfy_none (ρ := ρ) (.cons (.str _) .nil) rfl rfl fun K hK => sum_walk _ _ _ (bytesOf_lt _) (by omega) hl _ K (hK _)
  · cases h
def apart (f : Nat) : Bool := Nat.beq f 12 || (Nat.beq f 15 || (Nat.beq f 16 || (Nat.beq f 18 || (Nat.beq f 20 || (Nat.beq f 22 || (Nat.beq f 23 || (Nat.beq f 26 || Nat.beq f 39)))))))
def js : Nat → Option AFunc := tabPart ft.get apart
def tabX : Nat → Option AFunc := tabPart ft.get fun f => !(apart f || Nat.beq f 30)
def base : CF (Option V) := lastFn 30 sumS fun _ _ _ _ => none
def lastS : CF Bool := lastJs js tabX base (lastFn 30 sumS lastF)
theorem callable30 : Callable Try.prog 30 := callable_of Try.func30 (by kernel_rfl) (by kernel_rfl)
theorem lastS_ok : LastOk Try.prog lastS (fun b => b = true) :=
  lastJs_ok Try.checked.mixed (tabPart_ok (FT.tabOk ftOk) _) (tabPart_ok (FT.tabOk ftOk) _) (fun v => lastFn_ok callable30 sumS_ok (last_none (A := optA) (optHolds v))) (lastFn_ok callable30 sumS_ok lastF_ok)
theorem run : callD boolAns tabX lastS 60 Ys.none (.func (.func 11) [] []) [] ⟨0, .leaf⟩ endB = true := by kernel_rfl
theorem walk (w : World) : Calls Try.prog 11 #[] w fun e w' => e = .returned (.bool true) ∧ Stays w w' :=
  open_calls (d := 59) Try.checked.mixed (tabPart_ok (FT.tabOk ftOk) _) lastS_ok (f := 11) (af := c11) rfl .nil run w

theorem lifted (os : Os) (started : os.Started) (H : Type) (enc : TypeId × Value → H) :
    ReturnsInHanded {} Try.checked os 11 .any (Rows.superKnownSpec.pre6 enc Try.prog Try.f11 Rows.superKnownRow.domain false) (Rows.superKnownSpec.post enc Try.prog Try.f11 false true false false) := by
  refine law_lifted (C := Try.checked) (tb := 4) own started (by kernel_rfl) Try.func11
    (ChangeSpec.witness6 (enc := enc) (C := Try.checked) false ⟨#[], #[], []⟩ 8 (by kernel_rfl) (by kernel_rfl) (by kernel_rfl) (by kernel_rfl))
    laidOut rowed sized (by kernel_rfl) rfl Try.underlying4 rfl (fun ds h => match ds, h with | [], _ => ⟨rfl, rfl, rfl⟩) ?_
  intro W base args ds p hval0 hA0
  have hval : ∀ (j : Nat) t v, Try.f11.params[j]? = some t → args[j]? = some v → Value.okWide Try.prog W .any base t v := hval0
  have hA : DataW.TrodAll enc Try.prog W 0 (fun _ => true) true Try.f11.params.toList args.toList ds p := hA0
  clear hval0 hA0
  rw [Try.params11] at hA hval
  obtain ⟨e0, rfl, rfl⟩ := trodAll_nil hA
  have ha : args = #[] := by cases args; simp_all
  subst ha
  exact walk  W

theorem over : Rows.superKnownRow.holds Try.pinned (OpenSpec.ofChange Rows.superKnownSpec) :=
  OpenClaim.holds_of_wide 11 Try.f11 rfl rfl rfl rfl rfl rfl rfl ⟨rfl, rfl, rfl, rfl, rfl⟩ rfl rfl rfl rfl rfl (by kernel_rfl) Try.func11 (by kernel_rfl)
    (of_decide_eq_true (by kernel_rfl)) (by unfold Func.isWrapper; first | (rw [if_pos (by decide +kernel)]; kernel_rfl) | (rw [if_neg (by decide +kernel)]; exact ⟨rfl, rfl⟩))
    (fun os started H enc _ => lifted os started H enc)

/-- The statement. -/
theorem proved : Rows.SuperKnownSaid :=
  over
#print axioms proved
end Go.Proofs.Ythmbmcpjakbepaa.superKnown
