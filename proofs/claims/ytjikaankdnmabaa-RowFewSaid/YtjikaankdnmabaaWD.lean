/- What the functions of package place answer, in the seat of row: definitions. No condition. -/
import Derived.Test.YtjikaankdnmabaaCodeF
import Derived.Test.YtjikaankdnmabaaAM41
namespace Go.Proofs.Ytjikaankdnmabaa
open Go Go.AM
set_option maxRecDepth 100000
set_option maxHeartbeats 0
set_option linter.unusedVariables false

def rgP (l m r : Int) : Prop := (l = 1 ∧ m = 2 ∨ l = 5 ∧ (m = 3 ∨ m = 4)) ∧ 2 ≤ r ∧ r ≤ 64 ∧ r % 2 = 0
instance (l m r : Int) : Decidable (rgP l m r) := by unfold rgP; infer_instance
theorem rgEx (l m r : Int) : ∃ b, b = decide (rgP l m r) := ⟨_, rfl⟩
noncomputable def rgB (l m r : Int) : Bool := Classical.choose (rgEx l m r)
theorem rgB_eq (l m r : Int) : rgB l m r = decide (rgP l m r) := Classical.choose_spec (rgEx l m r)
abbrev geo (l m r : Int) : V := .agg [.int .i64 l, .int .i64 m, .int .i64 r]
theorem roEx (l m r s : Int) : ∃ b, b = decide (rgP l m r ∧ 0 ≤ s ∧ s < r) := ⟨_, rfl⟩
noncomputable def roB (l m r s : Int) : Bool := Classical.choose (roEx l m r s)
theorem roB_eq (l m r s : Int) : roB l m r s = decide (rgP l m r ∧ 0 ≤ s ∧ s < r) := Classical.choose_spec (roEx l m r s)
theorem pzEx (l m r s : Int) : ∃ b, b = (if rgP l m r ∧ 0 ≤ s ∧ s < r then (if l = 1 then 1 else m - 1 - s / 2 % m) else 0) := ⟨_, rfl⟩
noncomputable def pz (l m r s : Int) : Int := Classical.choose (pzEx l m r s)
theorem pz_eq (l m r s : Int) : pz l m r s = if rgP l m r ∧ 0 ≤ s ∧ s < r then (if l = 1 then 1 else m - 1 - s / 2 % m) else 0 := Classical.choose_spec (pzEx l m r s)
noncomputable def R61 : List V → Option V
  | [.agg [.int .i64 l, .int .i64 m, .int .i64 r]] => some (.bool (rgB l m r))
  | _ => none
noncomputable def R47 : List V → Option V
  | [.agg [.int .i64 l, .int .i64 m, .int .i64 r], .int .i64 s] => some (.bool (roB l m r s))
  | _ => none
noncomputable def R27 : List V → Option V
  | [.agg [.int .i64 l, .int .i64 m, .int .i64 r], .int .i64 s] => some (.tuple [.int .i64 (pz l m r s), .bool (roB l m r s)])
  | _ => none
def dataL (m p : Int) : List Int := (List.range (m - 1).toNat).map fun d : Nat => (p + 1 + (d : Int)) % m
def dataF (m p : Int) : List V := (dataL m p).map fun x => V.int .i64 x
abbrev la0 : CF Prop := fun _ _ _ _ => False
noncomputable abbrev la1 : CF Prop := lastFn 61 R61 la0
noncomputable abbrev la2 : CF Prop := lastFn 47 R47 la1
noncomputable abbrev la3 : CF Prop := lastFn 27 R27 la2
abbrev tb0 : Nat → Option AFunc := fun _ => none
theorem mono1 : MonoCF la1 := mono_fn mono_false
theorem mono2 : MonoCF la2 := mono_fn mono1
theorem mono3 : MonoCF la3 := mono_fn mono2
theorem gT {l m r : Int} (h : rgP l m r) : V.bool true = V.bool (rgB l m r) := by rw [rgB_eq, decide_eq_true h]
theorem gF {l m r : Int} (h : ¬ rgP l m r) : V.bool false = V.bool (rgB l m r) := by rw [rgB_eq, decide_eq_false h]
theorem gD {l m r : Int} {q : Prop} [Decidable q] (h : q ↔ rgP l m r) : V.bool (decide q) = V.bool (rgB l m r) := by rw [rgB_eq]; exact congrArg V.bool (decide_eq_decide.2 h)
theorem oT {l m r s : Int} (h : rgP l m r ∧ 0 ≤ s ∧ s < r) : V.bool true = V.bool (roB l m r s) := by rw [roB_eq, decide_eq_true h]
theorem oF {l m r s : Int} (h : ¬ (rgP l m r ∧ 0 ≤ s ∧ s < r)) : V.bool false = V.bool (roB l m r s) := by rw [roB_eq, decide_eq_false h]
theorem oD {l m r s : Int} {q : Prop} [Decidable q] (h : q ↔ (rgP l m r ∧ 0 ≤ s ∧ s < r)) : V.bool (decide q) = V.bool (roB l m r s) := by rw [roB_eq]; exact congrArg V.bool (decide_eq_decide.2 h)
abbrev z0 : List Nat := (0 :: 0 :: 0 :: 0 :: 0 :: 0 :: 0 :: 0 :: 0 :: 0 :: 0 :: 0 :: 0 :: 0 :: 0 :: 0 :: 0 :: 0 :: 0 :: 0 :: 0 :: 0 :: 0 :: 0 :: 0 :: 0 :: 0 :: 0 :: 0 :: 0 :: 0 :: 0 :: 0 :: 0 :: 0 :: 0 :: 0 :: 0 :: 0 :: 0 :: 0 :: 0 :: 0 :: 0 :: 0 :: 0 :: 0 :: 0 :: 0 :: 0 :: 0 :: 0 :: 0 :: 0 :: 0 :: 0 :: 0 :: 0 :: 0 :: 0 :: 0 :: 0 :: 0 :: 0 :: [])
abbrev z1 : List Nat := (1 :: 1 :: 1 :: 1 :: 1 :: 1 :: 1 :: 1 :: 1 :: 1 :: 1 :: 1 :: 1 :: 1 :: 1 :: 1 :: 1 :: 1 :: 1 :: 1 :: 1 :: 1 :: 1 :: 1 :: 1 :: 1 :: 1 :: 1 :: 1 :: 1 :: 1 :: 1 :: 1 :: 1 :: 1 :: 1 :: 1 :: 1 :: 1 :: 1 :: 1 :: 1 :: 1 :: 1 :: 1 :: 1 :: 1 :: 1 :: 1 :: 1 :: 1 :: 1 :: 1 :: 1 :: 1 :: 1 :: 1 :: 1 :: 1 :: 1 :: 1 :: 1 :: 1 :: 1 :: [])
abbrev z2 : List Nat := (2 :: 2 :: 2 :: 2 :: 2 :: 2 :: 2 :: 2 :: 2 :: 2 :: 2 :: 2 :: 2 :: 2 :: 2 :: 2 :: 2 :: 2 :: 2 :: 2 :: 2 :: 2 :: 2 :: 2 :: 2 :: 2 :: 2 :: 2 :: 2 :: 2 :: 2 :: 2 :: 2 :: 2 :: 2 :: 2 :: 2 :: 2 :: 2 :: 2 :: 2 :: 2 :: 2 :: 2 :: 2 :: 2 :: 2 :: 2 :: 2 :: 2 :: 2 :: 2 :: 2 :: 2 :: 2 :: 2 :: 2 :: 2 :: 2 :: 2 :: 2 :: 2 :: 2 :: 2 :: [])
abbrev z3 : List Nat := (3 :: 3 :: 3 :: 3 :: 3 :: 3 :: 3 :: 3 :: 3 :: 3 :: 3 :: 3 :: 3 :: 3 :: 3 :: 3 :: 3 :: 3 :: 3 :: 3 :: 3 :: 3 :: 3 :: 3 :: 3 :: 3 :: 3 :: 3 :: 3 :: 3 :: 3 :: 3 :: 3 :: 3 :: 3 :: 3 :: 3 :: 3 :: 3 :: 3 :: 3 :: 3 :: 3 :: 3 :: 3 :: 3 :: 3 :: 3 :: 3 :: 3 :: 3 :: 3 :: 3 :: 3 :: 3 :: 3 :: 3 :: 3 :: 3 :: 3 :: 3 :: 3 :: 3 :: 3 :: [])
theorem land1 (x : Nat) : x &&& 1 = x % 2 := Nat.and_one_is_mod x
def fullS : List V → Option V
  | [.int .u8 (.ofNat b)] => some (.str (List.replicate 64 (b % 256)))
  | _ => none
abbrev laW : CF Prop := lastFn 18 fullS (fun _ _ _ _ => False)
theorem monoW : MonoCF laW := mono_fn mono_false

end Go.Proofs.Ytjikaankdnmabaa
