/- What the functions answer, in the seat of row: definitions. No condition. -/
import Derived.Test.YtjikaankdnmabaaCodeRW
import Derived.Test.YtjikaankdnmabaaAM43
import Derived.Test.YtjikaankdnmabaaAM50
namespace Go.Proofs.Ytjikaankdnmabaa
open Go Go.AM
set_option maxRecDepth 100000
set_option maxHeartbeats 0
set_option linter.unusedVariables false
def rgP (l m r : Int) : Prop := (l = 1 ∧ m = 2 ∨ l = 5 ∧ (m = 3 ∨ m = 4)) ∧ 2 ≤ r ∧ r ≤ 64 ∧ r % 2 = 0
instance (l m r : Int) : Decidable (rgP l m r) := by unfold rgP; infer_instance
theorem rgEx (l m r : Int) : ∃ b, b = decide (rgP l m r) := ⟨_, rfl⟩
noncomputable def rgB (l m r : Int) : Bool := Classical.choose (rgEx l m r)
theorem rgB_eq (l m r : Int) : rgB l m r = decide (rgP l m r) := Classical.choose_spec (rgEx l m r)
abbrev geo (l m r : Int) : V := .agg [.int .i64 l, .int .i64 m, .int .i64 r]
theorem roEx (l m r s : Int) : ∃ b, b = decide (rgP l m r ∧ 0 ≤ s ∧ s < r) := ⟨_, rfl⟩
noncomputable def roB (l m r s : Int) : Bool := Classical.choose (roEx l m r s)
theorem roB_eq (l m r s : Int) : roB l m r s = decide (rgP l m r ∧ 0 ≤ s ∧ s < r) := Classical.choose_spec (roEx l m r s)
theorem pzEx (l m r s : Int) : ∃ b, b = (if rgP l m r ∧ 0 ≤ s ∧ s < r then (if l = 1 then 1 else m - 1 - s / 2 % m) else 0) := ⟨_, rfl⟩
noncomputable def pz (l m r s : Int) : Int := Classical.choose (pzEx l m r s)
theorem pz_eq (l m r s : Int) : pz l m r s = if rgP l m r ∧ 0 ≤ s ∧ s < r then (if l = 1 then 1 else m - 1 - s / 2 % m) else 0 := Classical.choose_spec (pzEx l m r s)
noncomputable def R61 : List V → Option V
  | [.agg [.int .i64 l, .int .i64 m, .int .i64 r]] => some (.bool (rgB l m r))
  | _ => none
noncomputable def R47 : List V → Option V
  | [.agg [.int .i64 l, .int .i64 m, .int .i64 r], .int .i64 s] => some (.bool (roB l m r s))
  | _ => none
noncomputable def R27 : List V → Option V
  | [.agg [.int .i64 l, .int .i64 m, .int .i64 r], .int .i64 s] => some (.tuple [.int .i64 (pz l m r s), .bool (roB l m r s)])
  | _ => none
def dataL (m p : Int) : List Int := (List.range (m - 1).toNat).map fun d : Nat => (p + 1 + (d : Int)) % m
def dataF (m p : Int) : List V := (dataL m p).map fun x => V.int .i64 x
abbrev la0 : CF Prop := fun _ _ _ _ => False
noncomputable abbrev la1 : CF Prop := lastFn 61 R61 la0
noncomputable abbrev la2 : CF Prop := lastFn 47 R47 la1
noncomputable abbrev la3 : CF Prop := lastFn 27 R27 la2
abbrev tb0 : Nat → Option AFunc := fun _ => none
theorem mono1 : MonoCF la1 := mono_fn mono_false
theorem mono2 : MonoCF la2 := mono_fn mono1
theorem mono3 : MonoCF la3 := mono_fn mono2
theorem gF {l m r : Int} (h : ¬ rgP l m r) : V.bool false = V.bool (rgB l m r) := by rw [rgB_eq, decide_eq_false h]
theorem gD {l m r : Int} {q : Prop} [Decidable q] (h : q ↔ rgP l m r) : V.bool (decide q) = V.bool (rgB l m r) := by rw [rgB_eq]; exact congrArg V.bool (decide_eq_decide.2 h)
theorem oF {l m r s : Int} (h : ¬ (rgP l m r ∧ 0 ≤ s ∧ s < r)) : V.bool false = V.bool (roB l m r s) := by rw [roB_eq, decide_eq_false h]
theorem oD {l m r s : Int} {q : Prop} [Decidable q] (h : q ↔ (rgP l m r ∧ 0 ≤ s ∧ s < r)) : V.bool (decide q) = V.bool (roB l m r s) := by rw [roB_eq]; exact congrArg V.bool (decide_eq_decide.2 h)
def c8l0b : ACode := sndC (sndC c8l0)
theorem c8l0_eq : c8l0 = rangeB s10 s9 s11 0 c8l0b := rfl
def outsF (m : Int) (b0 b1 b2 b3 : Bool) : Nat := (if b0 then 0 else 1) + (if b1 then 0 else 1) + (if 2 < m ∧ b2 = false then 1 else 0) + (if 3 < m ∧ b3 = false then 1 else 0)
theorem meEx (l m r s : Int) (b0 b1 b2 b3 : Bool) : ∃ e : Int, e = (if roB l m r s = true then (if 1 < outsF m b0 b1 b2 b3 then 20 else 0) else 1) := ⟨_, rfl⟩
noncomputable def mayE (l m r s : Int) (b0 b1 b2 b3 : Bool) : Int := Classical.choose (meEx l m r s b0 b1 b2 b3)
theorem mayE_eq (l m r s : Int) (b0 b1 b2 b3 : Bool) : mayE l m r s b0 b1 b2 b3 = if roB l m r s = true then (if 1 < outsF m b0 b1 b2 b3 then 20 else 0) else 1 := Classical.choose_spec (meEx l m r s b0 b1 b2 b3)
noncomputable def R30 : List V → Option V
  | [.agg [.int .i64 l, .int .i64 m, .int .i64 r], .int .i64 s, .agg [.bool b0, .bool b1, .bool b2, .bool b3]] => some (.int .i64 (mayE l m r s b0 b1 b2 b3))
  | _ => none
def accB (a : Nat) : List Nat → Nat
  | [] => a
  | b :: l => accB ((a % 256 ^^^ b % 256) % 256) l
def sumG (gs : List (List Nat)) : List Nat := (List.range 64).map fun i => accB 0 (gs.map fun g => g.getD i 0) % 256
def stV (gs : List (List Nat)) : List V := gs.map fun g => .str g
abbrev conSum (e : V) (gs : List (List Nat)) : Con := ⟨[.slice 0 0 gs.length gs.length 1], [.cells (stV gs) false], .tuple [.str (sumG gs), e], [.cells (stV gs) false], []⟩
inductive S28 : Con → Prop
  | mk (gs : List (List Nat)) (h : ∀ g ∈ gs, g.length = 64) (h1 : 1 ≤ gs.length) (h5 : gs.length ≤ 5) : S28 (conSum (.int .i64 0) gs)
inductive S46 : Con → Prop
  | mk (gs : List (List Nat)) (h : ∀ g ∈ gs, g.length = 64) (h1 : 1 ≤ gs.length) (h5 : gs.length ≤ 5) : S46 (conSum (.bool true) gs)
abbrev ag (b0 b1 b2 b3 : Bool) : V := .agg [.bool b0, .bool b1, .bool b2, .bool b3]
def greatB (L : List (Int × List Nat × Nat)) : Bool := decide (20 < L.length) || L.any fun x => decide (200 < x.2.1.length)
inductive S8 : Con → Prop
  | mk (L : List (Int × List Nat × Nat)) (c : Nat) (ro : Bool) (h : ∀ x ∈ L, x.2.2 < c) (hn : (L.map fun x => x.2.2).Nodup) : S8 ⟨[.map 0], [.map (mV L) c ro], .bool (greatB L), [.map (mV L) c ro], []⟩
  | nil : S8 ⟨[.nilmap], [], .bool false, [], []⟩
noncomputable abbrev la57 : CF Prop := lastFn 57 R61 la0
theorem mono57 : MonoCF la57 := mono_fn mono_false
end Go.Proofs.Ytjikaankdnmabaa
