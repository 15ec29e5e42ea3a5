/- What the functions of package super answer: definitions. No condition. -/
import Derived.Test.YthmbmcpjakbepaaCr
namespace Go.Proofs.Ythmbmcpjakbepaa
open Go Go.AM
set_option maxRecDepth 100000
set_option maxHeartbeats 0
set_option linter.unusedVariables false

def rgP (l n r : Int) : Prop := (l = 1 ∧ n = 2 ∨ l = 5 ∧ (n = 3 ∨ n = 4)) ∧ 2 ≤ r ∧ r ≤ 64 ∧ r % 2 = 0
instance (l n r : Int) : Decidable (rgP l n r) := by unfold rgP; infer_instance
def rgB (l n r : Int) : Bool := decide (rgP l n r)
def rightP (a m l n r e p x0 x1 x2 x3 c : Int) : Prop := 1 ≤ a ∧ a ≤ 255 ∧ rgP l n r ∧ 0 ≤ m ∧ m < n ∧ 1 ≤ e ∧ e ≤ 2147483647 ∧ 1 ≤ p ∧ p ≤ 2147483647 ∧
  1 ≤ x0 ∧ x0 ≤ 3 ∧ 1 ≤ x1 ∧ x1 ≤ 3 ∧ (n ≤ 2 ∧ x2 = 0 ∨ 3 ≤ n ∧ 1 ≤ x2 ∧ x2 ≤ 3) ∧ (n ≤ 3 ∧ x3 = 0 ∨ 4 ≤ n ∧ 1 ≤ x3 ∧ x3 ≤ 3) ∧
  (x0 ≤ 1 ∨ x1 ≤ 1) ∧ (x0 ≤ 1 ∨ x2 ≤ 1) ∧ (x0 ≤ 1 ∨ x3 ≤ 1) ∧ (x1 ≤ 1 ∨ x2 ≤ 1) ∧ (x1 ≤ 1 ∨ x3 ≤ 1) ∧ (x2 ≤ 1 ∨ x3 ≤ 1) ∧
  0 ≤ c ∧ c ≤ r ∧ (x0 = 3 ∨ x1 = 3 ∨ x2 = 3 ∨ x3 = 3 ∨ c = 0)
instance (a m l n r e p x0 x1 x2 x3 c : Int) : Decidable (rightP a m l n r e p x0 x1 x2 x3 c) := by unfold rightP; infer_instance
theorem rightEx (a m l n r e p x0 x1 x2 x3 c : Int) : ∃ b, b = decide (rightP a m l n r e p x0 x1 x2 x3 c) := ⟨_, rfl⟩
noncomputable def rightS (a m l n r e p x0 x1 x2 x3 c : Int) : Bool := Classical.choose (rightEx a m l n r e p x0 x1 x2 x3 c)
theorem rightS_eq (a m l n r e p x0 x1 x2 x3 c : Int) : rightS a m l n r e p x0 x1 x2 x3 c = decide (rightP a m l n r e p x0 x1 x2 x3 c) := Classical.choose_spec (rightEx a m l n r e p x0 x1 x2 x3 c)
section
variable {a m l n r e p x0 x1 x2 x3 c : Int}
theorem rT (h : rightP a m l n r e p x0 x1 x2 x3 c) : V.bool true = V.bool (rightS a m l n r e p x0 x1 x2 x3 c) := by rw [rightS_eq, decide_eq_true h]
theorem rF (h : ¬ rightP a m l n r e p x0 x1 x2 x3 c) : V.bool false = V.bool (rightS a m l n r e p x0 x1 x2 x3 c) := by rw [rightS_eq, decide_eq_false h]
theorem rD {q : Prop} [Decidable q] (h : q ↔ rightP a m l n r e p x0 x1 x2 x3 c) : V.bool (decide q) = V.bool (rightS a m l n r e p x0 x1 x2 x3 c) := by rw [rightS_eq]; exact congrArg V.bool (decide_eq_decide.2 h)
end
abbrev geo (l n r : Int) : V := .agg [.int .i64 l, .int .i64 n, .int .i64 r]
abbrev sup (a m l n r e p x0 x1 x2 x3 c : Int) : V := .agg [.int .i64 a, .int .i64 m, .int .i64 l, .int .i64 n, .int .i64 r, .int .i64 e, .int .i64 p, .int .i64 x0, .int .i64 x1, .int .i64 x2, .int .i64 x3, .int .i64 c]
def geoR : List V → Option V
  | [.agg [.int .i64 l, .int .i64 n, .int .i64 r]] => some (.bool (rgB l n r))
  | _ => none
noncomputable def supR : List V → Option V
  | [.agg [.int .i64 a, .int .i64 m, .int .i64 l, .int .i64 n, .int .i64 r, .int .i64 e, .int .i64 p, .int .i64 x0, .int .i64 x1, .int .i64 x2, .int .i64 x3, .int .i64 c]] => some (.bool (rightS a m l n r e p x0 x1 x2 x3 c))
  | _ => none
abbrev la0 : CF Prop := fun _ _ _ _ => False
abbrev la1 : CF Prop := lastFn 31 geoR (lastFn 32 geoR la0)
noncomputable abbrev la2 : CF Prop := lastFn 13 supR (lastFn 15 supR la1)
abbrev tb0 : Nat → Option AFunc := fun _ => none
abbrev tbR : Nat → Option AFunc := fun f => bif Nat.beq f 33 then some c33 else bif Nat.beq f 34 then some c34 else none
theorem sumEx (s : List Nat) : ∃ x, x = sumOf s % 4294967296 := ⟨_, rfl⟩
/-- The sum of a text, under a seal: a run does not look into it. -/
noncomputable def sumT (s : List Nat) : Nat := Classical.choose (sumEx s)
theorem sumT_eq (s : List Nat) : sumT s = sumOf s % 4294967296 := Classical.choose_spec (sumEx s)
theorem sumT_lt (s : List Nat) : sumT s < 4294967296 := by rw [sumT_eq]; exact Nat.mod_lt _ (by decide)
theorem sum_hi {s : List Nat} : sumT s / 16777216 % 256 = sumT s / 16777216 := by have := sumT_lt s; omega
noncomputable def sumR : List V → Option V
  | [.str s] => bif Nat.blt s.length 1099511627776 then some (.int .u32 ((sumT s : Nat) : Int)) else none
  | _ => none
def four (n : Nat) : List Nat := [n % 256, n / 256 % 256, n / 65536 % 256, n / 16777216]
def bodyL (a m l n r e p c x0 x1 x2 x3 : Nat) : List Nat := [66, 89, 83, 1] ++ (four a ++ (four m ++ (four l ++ (four n ++ (four r ++ (four e ++ (four p ++ (four c ++ (four x0 ++ (four x1 ++ (four x2 ++ (four x3 ++ [0, 0, 0, 0, 0, 0, 0, 0]))))))))))))
noncomputable def recL (a m l n r e p c x0 x1 x2 x3 : Nat) : List Nat := bodyL a m l n r e p c x0 x1 x2 x3 ++ four (sumT (bodyL a m l n r e p c x0 x1 x2 x3))
abbrev u (x : Int) : Nat := toU .u32 x
theorem recEx (a m l n r e p x0 x1 x2 x3 c : Int) : ∃ b, b = recL (u a) (u m) (u l) (u n) (u r) (u e) (u p) (u c) (u x0) (u x1) (u x2) (u x3) := ⟨_, rfl⟩
noncomputable def recZ (a m l n r e p x0 x1 x2 x3 c : Int) : List Nat := Classical.choose (recEx a m l n r e p x0 x1 x2 x3 c)
theorem recZ_eq (a m l n r e p x0 x1 x2 x3 c : Int) : recZ a m l n r e p x0 x1 x2 x3 c = recL (u a) (u m) (u l) (u n) (u r) (u e) (u p) (u c) (u x0) (u x1) (u x2) (u x3) := Classical.choose_spec (recEx a m l n r e p x0 x1 x2 x3 c)
noncomputable def txtS (a m l n r e p x0 x1 x2 x3 c : Int) : List Nat := bif rightS a m l n r e p x0 x1 x2 x3 c then recZ a m l n r e p x0 x1 x2 x3 c else []
noncomputable def errS (a m l n r e p x0 x1 x2 x3 c : Int) : Int := bif rightS a m l n r e p x0 x1 x2 x3 c then 0 else 1
theorem sumOf_lt {s : List Nat} (hs : ∀ b ∈ s, b < 256) : sumOf s < 4294967296 := Nat.xor_lt_two_pow (n := 32) (by decide) (crcL_lt s (by decide) hs)
noncomputable def recR : List V → Option V
  | [.agg [.int .i64 a, .int .i64 m, .int .i64 l, .int .i64 n, .int .i64 r, .int .i64 e, .int .i64 p, .int .i64 x0, .int .i64 x1, .int .i64 x2, .int .i64 x3, .int .i64 c]] => some (.str (recZ a m l n r e p x0 x1 x2 x3 c))
  | _ => none
noncomputable def bytR : List V → Option V
  | [.agg [.int .i64 a, .int .i64 m, .int .i64 l, .int .i64 n, .int .i64 r, .int .i64 e, .int .i64 p, .int .i64 x0, .int .i64 x1, .int .i64 x2, .int .i64 x3, .int .i64 c]] => some (.tuple [.str (txtS a m l n r e p x0 x1 x2 x3 c), .int .i64 (errS a m l n r e p x0 x1 x2 x3 c)])
  | _ => none
abbrev tbD : Nat → Option AFunc := fun f => bif Nat.beq f 28 then some c28 else bif Nat.beq f 37 then some c37 else bif Nat.beq f 38 then some c38 else none
noncomputable abbrev la3 : CF Prop := lastFn 30 sumR (lastFn 36 sumR la2)
noncomputable abbrev la4 : CF Prop := lastFn 12 bytR (lastFn 17 recR la3)
abbrev tbB : Nat → Option AFunc := fun f => bif Nat.beq f 28 then some c28 else bif Nat.beq f 29 then some c29 else bif Nat.beq f 35 then some c35 else none
noncomputable abbrev la5 : CF Prop := lastW 16 la4
abbrev tbG : Nat → Option AFunc := fun f => bif Nat.beq f 14 then some c14 else none
theorem mono1 : MonoCF la1 := mono_fn (mono_fn mono_false)
theorem mono2 : MonoCF la2 := mono_fn (mono_fn mono1)
theorem mono3 : MonoCF la3 := mono_fn (mono_fn mono2)
theorem mono4 : MonoCF la4 := mono_fn (mono_fn mono3)
theorem mono5 : MonoCF la5 := mono_w mono4

end Go.Proofs.Ythmbmcpjakbepaa
