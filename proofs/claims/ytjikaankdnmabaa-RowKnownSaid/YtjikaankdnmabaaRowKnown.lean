/- RowKnown: for every input the law returns true and its arguments are as they were. No condition. -/
import Derived.Test.YtjikaankdnmabaaRows
import Derived.WalkKit
import Derived.ProofKit
import Derived.OpenShut
import Derived.ChangeMaps5
import Derived.Test.YtjikaankdnmabaaCodeRo
import Derived.Test.YtjikaankdnmabaaAM34
namespace Go.Proofs.Ytjikaankdnmabaa.rowKnown
open Go Go.AM Go.ChangeShapes Go.WideShapes Go.ChangeAt Go.RowKit
set_option linter.unusedVariables false
set_option maxRecDepth 100000

theorem own : ownKnob Try.prog.godebug = none := by kernel_rfl
theorem laidOut : laidOutB Try.prog = true := by kernel_rfl
theorem rowed : mapsRowed Try.prog = true := by kernel_rfl
theorem sized : szB Try.prog = true := by kernel_rfl

def apart (f : Nat) : Bool := Nat.beq f 14 || (Nat.beq f 15 || (Nat.beq f 21 || (Nat.beq f 27 || (Nat.beq f 28 || (Nat.beq f 30 || (Nat.beq f 31 || (Nat.beq f 32 || (Nat.beq f 34 || (Nat.beq f 41 || (Nat.beq f 47 || Nat.beq f 61))))))))))
def js : Nat → Option AFunc := tabPart ft.get apart
def tabX : Nat → Option AFunc := tabPart ft.get fun f => !(apart f || (Nat.beq f 18 || Nat.beq f 9))
def none1 : CF (Option V) := fun _ _ _ _ => none
/-- A sector of one byte. -/
def fullS : List V → Option V
  | [.int .u8 (.ofNat b)] => some (.str (List.replicate 64 (b % 256)))
  | _ => none
theorem fullRun (b : Nat) : joinG ft.get none1 18 [.int .u8 (.ofNat b)] ⟨0, .leaf⟩ = some (.str (List.replicate 64 (b % 256))) := by kernel_rfl
theorem callable18 : Callable Try.prog 18 := callable_of Try.func18 (by kernel_rfl) (by kernel_rfl)
theorem fullS_ok : ∀ (ρ : Ren) (args : List V) (args' : List Value) (v : V), fullS args = some v → VRs ρ args args' → Answers Try.prog 18 args' v := by
  intro ρ args args' v h ha
  unfold fullS at h
  split at h
  · rename_i b
    cases h
    exact answers_of_join Try.checked.mixed (FT.tabOk ftOk) (fun v => last_none (A := optA) (optHolds v)) ha rfl (fullRun b)
  · cases h
def base : CF (Option V) := lastFn 18 fullS none1
theorem base_ok (v : V) : LastOk Try.prog base (fun r => r = some v) := lastFn_ok callable18 fullS_ok (last_none (A := optA) (optHolds v))
theorem js_ok : TabOk Try.prog js := tabPart_ok (FT.tabOk ftOk) _
theorem tabX_ok : TabOk Try.prog tabX := tabPart_ok (FT.tabOk ftOk) _
def wakesS : List V → Option V
  | [] => some (.bool true)
  | _ => none
theorem wakesRun : joinG ft.get (callD optA tabX (jl js tabX base 7) 60 Ys.none) 9 [] ⟨0, .leaf⟩ = some (.bool true) := by kernel_rfl
theorem callable9 : Callable Try.prog 9 := callable_of Try.func9 (by kernel_rfl) (by kernel_rfl)
theorem wakesS_ok : ∀ (ρ : Ren) (args : List V) (args' : List Value) (v : V), wakesS args = some v → VRs ρ args args' → Answers Try.prog 9 args' v := by
  intro ρ args args' v h ha
  unfold wakesS at h
  split at h
  · cases h
    exact answers_of_join Try.checked.mixed (FT.tabOk ftOk) (cf_ok Try.checked.mixed js_ok tabX_ok base_ok) ha rfl wakesRun
  · cases h
def lastS : CF Bool := lastFn 9 wakesS (lastJs js tabX base (lastFn 18 fullS lastF))
theorem lastS_ok : LastOk Try.prog lastS (fun b => b = true) :=
  lastFn_ok callable9 wakesS_ok (lastJs_ok Try.checked.mixed js_ok tabX_ok base_ok (lastFn_ok callable18 fullS_ok lastF_ok))
theorem run : callD boolAns tabX lastS 60 Ys.none (.func (.func 7) [] []) [] ⟨0, .leaf⟩ endB = true := by kernel_rfl
theorem walk (w : World) : Calls Try.prog 7 #[] w fun e w' => e = .returned (.bool true) ∧ Stays w w' :=
  open_calls (d := 59) Try.checked.mixed tabX_ok lastS_ok (f := 7) (af := c7) rfl .nil run w

theorem lifted (os : Os) (started : os.Started) (H : Type) (enc : TypeId × Value → H) :
    ReturnsInHanded {} Try.checked os 7 .any (Rows.rowKnownSpec.pre6 enc Try.prog Try.f7 Rows.rowKnownRow.domain false) (Rows.rowKnownSpec.post enc Try.prog Try.f7 false true false false) := by
  refine law_lifted (C := Try.checked) (tb := 4) own started (by kernel_rfl) Try.func7
    (ChangeSpec.witness6 (enc := enc) (C := Try.checked) false ⟨#[], #[], []⟩ 8 (by kernel_rfl) (by kernel_rfl) (by kernel_rfl) (by kernel_rfl))
    laidOut rowed sized (by kernel_rfl) rfl Try.underlying4 rfl (fun ds h => match ds, h with | [], _ => ⟨rfl, rfl, rfl⟩) ?_
  intro W base args ds p hval0 hA0
  have hval : ∀ (j : Nat) t v, Try.f7.params[j]? = some t → args[j]? = some v → Value.okWide Try.prog W .any base t v := hval0
  have hA : DataW.TrodAll enc Try.prog W 0 (fun _ => true) true Try.f7.params.toList args.toList ds p := hA0
  clear hval0 hA0
  rw [Try.params7] at hA hval
  obtain ⟨e0, rfl, rfl⟩ := trodAll_nil hA
  have ha : args = #[] := by cases args; simp_all
  subst ha
  exact walk  W

theorem over : Rows.rowKnownRow.holds Try.pinned (OpenSpec.ofChange Rows.rowKnownSpec) :=
  OpenClaim.holds_of_wide 7 Try.f7 rfl rfl rfl rfl rfl rfl rfl ⟨rfl, rfl, rfl, rfl, rfl⟩ rfl rfl rfl rfl rfl (by kernel_rfl) Try.func7 (by kernel_rfl)
    (of_decide_eq_true (by kernel_rfl)) (by unfold Func.isWrapper; first | (rw [if_pos (by decide +kernel)]; kernel_rfl) | (rw [if_neg (by decide +kernel)]; exact ⟨rfl, rfl⟩))
    (fun os started H enc _ => lifted os started H enc)

/-- The statement. -/
theorem proved : Rows.RowKnownSaid :=
  over
#print axioms proved
end Go.Proofs.Ytjikaankdnmabaa.rowKnown
