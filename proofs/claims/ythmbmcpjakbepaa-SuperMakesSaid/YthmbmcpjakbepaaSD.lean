/- What the functions of package super answer: definitions. No condition. -/
import Derived.Test.YthmbmcpjakbepaaCr
import Derived.Test.YthmbmcpjakbepaaAM50
namespace Go.Proofs.Ythmbmcpjakbepaa
open Go Go.AM
set_option maxRecDepth 100000
set_option maxHeartbeats 0
set_option linter.unusedVariables false
def rgP (l n r : Int) : Prop := (l = 1 ∧ n = 2 ∨ l = 5 ∧ (n = 3 ∨ n = 4)) ∧ 2 ≤ r ∧ r ≤ 64 ∧ r % 2 = 0
instance (l n r : Int) : Decidable (rgP l n r) := by unfold rgP; infer_instance
def rgB (l n r : Int) : Bool := decide (rgP l n r)
def rightP (a m l n r e p x0 x1 x2 x3 c : Int) : Prop := 1 ≤ a ∧ a ≤ 255 ∧ rgP l n r ∧ 0 ≤ m ∧ m < n ∧ 1 ≤ e ∧ e ≤ 2147483647 ∧ 1 ≤ p ∧ p ≤ 2147483647 ∧
  1 ≤ x0 ∧ x0 ≤ 3 ∧ 1 ≤ x1 ∧ x1 ≤ 3 ∧ (n ≤ 2 ∧ x2 = 0 ∨ 3 ≤ n ∧ 1 ≤ x2 ∧ x2 ≤ 3) ∧ (n ≤ 3 ∧ x3 = 0 ∨ 4 ≤ n ∧ 1 ≤ x3 ∧ x3 ≤ 3) ∧
  (x0 ≤ 1 ∨ x1 ≤ 1) ∧ (x0 ≤ 1 ∨ x2 ≤ 1) ∧ (x0 ≤ 1 ∨ x3 ≤ 1) ∧ (x1 ≤ 1 ∨ x2 ≤ 1) ∧ (x1 ≤ 1 ∨ x3 ≤ 1) ∧ (x2 ≤ 1 ∨ x3 ≤ 1) ∧
  0 ≤ c ∧ c ≤ r ∧ (x0 = 3 ∨ x1 = 3 ∨ x2 = 3 ∨ x3 = 3 ∨ c = 0)
instance (a m l n r e p x0 x1 x2 x3 c : Int) : Decidable (rightP a m l n r e p x0 x1 x2 x3 c) := by unfold rightP; infer_instance
theorem rightEx (a m l n r e p x0 x1 x2 x3 c : Int) : ∃ b, b = decide (rightP a m l n r e p x0 x1 x2 x3 c) := ⟨_, rfl⟩
noncomputable def rightS (a m l n r e p x0 x1 x2 x3 c : Int) : Bool := Classical.choose (rightEx a m l n r e p x0 x1 x2 x3 c)
theorem rightS_eq (a m l n r e p x0 x1 x2 x3 c : Int) : rightS a m l n r e p x0 x1 x2 x3 c = decide (rightP a m l n r e p x0 x1 x2 x3 c) := Classical.choose_spec (rightEx a m l n r e p x0 x1 x2 x3 c)
section
variable {a m l n r e p x0 x1 x2 x3 c : Int}
theorem rT (h : rightP a m l n r e p x0 x1 x2 x3 c) : V.bool true = V.bool (rightS a m l n r e p x0 x1 x2 x3 c) := by rw [rightS_eq, decide_eq_true h]
theorem rF (h : ¬ rightP a m l n r e p x0 x1 x2 x3 c) : V.bool false = V.bool (rightS a m l n r e p x0 x1 x2 x3 c) := by rw [rightS_eq, decide_eq_false h]
theorem rD {q : Prop} [Decidable q] (h : q ↔ rightP a m l n r e p x0 x1 x2 x3 c) : V.bool (decide q) = V.bool (rightS a m l n r e p x0 x1 x2 x3 c) := by rw [rightS_eq]; exact congrArg V.bool (decide_eq_decide.2 h)
end
abbrev geo (l n r : Int) : V := .agg [.int .i64 l, .int .i64 n, .int .i64 r]
abbrev sup (a m l n r e p x0 x1 x2 x3 c : Int) : V := .agg [.int .i64 a, .int .i64 m, .int .i64 l, .int .i64 n, .int .i64 r, .int .i64 e, .int .i64 p, .int .i64 x0, .int .i64 x1, .int .i64 x2, .int .i64 x3, .int .i64 c]
def geoR : List V → Option V
  | [.agg [.int .i64 l, .int .i64 n, .int .i64 r]] => some (.bool (rgB l n r))
  | _ => none
noncomputable def supR : List V → Option V
  | [.agg [.int .i64 a, .int .i64 m, .int .i64 l, .int .i64 n, .int .i64 r, .int .i64 e, .int .i64 p, .int .i64 x0, .int .i64 x1, .int .i64 x2, .int .i64 x3, .int .i64 c]] => some (.bool (rightS a m l n r e p x0 x1 x2 x3 c))
  | _ => none
abbrev la0 : CF Prop := fun _ _ _ _ => False
abbrev la1 : CF Prop := lastFn 31 geoR (lastFn 32 geoR la0)
noncomputable abbrev la2 : CF Prop := lastFn 13 supR (lastFn 15 supR la1)
abbrev tb0 : Nat → Option AFunc := fun _ => none
abbrev tbR : Nat → Option AFunc := fun f => bif Nat.beq f 33 then some c33 else bif Nat.beq f 34 then some c34 else none
theorem sumEx (s : List Nat) : ∃ x, x = sumOf s % 4294967296 := ⟨_, rfl⟩
noncomputable def sumT (s : List Nat) : Nat := Classical.choose (sumEx s)
theorem sumT_eq (s : List Nat) : sumT s = sumOf s % 4294967296 := Classical.choose_spec (sumEx s)
theorem sumT_lt (s : List Nat) : sumT s < 4294967296 := by rw [sumT_eq]; exact Nat.mod_lt _ (by decide)
theorem sum_hi {s : List Nat} : sumT s / 16777216 % 256 = sumT s / 16777216 := by have := sumT_lt s; omega
noncomputable def sumR : List V → Option V
  | [.str s] => bif Nat.blt s.length 1099511627776 then some (.int .u32 ((sumT s : Nat) : Int)) else none
  | _ => none
def four (n : Nat) : List Nat := [n % 256, n / 256 % 256, n / 65536 % 256, n / 16777216]
def bodyL (a m l n r e p c x0 x1 x2 x3 : Nat) : List Nat := [66, 89, 83, 1] ++ (four a ++ (four m ++ (four l ++ (four n ++ (four r ++ (four e ++ (four p ++ (four c ++ (four x0 ++ (four x1 ++ (four x2 ++ (four x3 ++ [0, 0, 0, 0, 0, 0, 0, 0]))))))))))))
noncomputable def recL (a m l n r e p c x0 x1 x2 x3 : Nat) : List Nat := bodyL a m l n r e p c x0 x1 x2 x3 ++ four (sumT (bodyL a m l n r e p c x0 x1 x2 x3))
abbrev u (x : Int) : Nat := toU .u32 x
theorem recEx (a m l n r e p x0 x1 x2 x3 c : Int) : ∃ b, b = recL (u a) (u m) (u l) (u n) (u r) (u e) (u p) (u c) (u x0) (u x1) (u x2) (u x3) := ⟨_, rfl⟩
noncomputable def recZ (a m l n r e p x0 x1 x2 x3 c : Int) : List Nat := Classical.choose (recEx a m l n r e p x0 x1 x2 x3 c)
theorem recZ_eq (a m l n r e p x0 x1 x2 x3 c : Int) : recZ a m l n r e p x0 x1 x2 x3 c = recL (u a) (u m) (u l) (u n) (u r) (u e) (u p) (u c) (u x0) (u x1) (u x2) (u x3) := Classical.choose_spec (recEx a m l n r e p x0 x1 x2 x3 c)
noncomputable def txtS (a m l n r e p x0 x1 x2 x3 c : Int) : List Nat := bif rightS a m l n r e p x0 x1 x2 x3 c then recZ a m l n r e p x0 x1 x2 x3 c else []
noncomputable def errS (a m l n r e p x0 x1 x2 x3 c : Int) : Int := bif rightS a m l n r e p x0 x1 x2 x3 c then 0 else 1
theorem sumOf_lt {s : List Nat} (hs : ∀ b ∈ s, b < 256) : sumOf s < 4294967296 := Nat.xor_lt_two_pow (n := 32) (by decide) (crcL_lt s (by decide) hs)
noncomputable def recR : List V → Option V
  | [.agg [.int .i64 a, .int .i64 m, .int .i64 l, .int .i64 n, .int .i64 r, .int .i64 e, .int .i64 p, .int .i64 x0, .int .i64 x1, .int .i64 x2, .int .i64 x3, .int .i64 c]] => some (.str (recZ a m l n r e p x0 x1 x2 x3 c))
  | _ => none
noncomputable def bytR : List V → Option V
  | [.agg [.int .i64 a, .int .i64 m, .int .i64 l, .int .i64 n, .int .i64 r, .int .i64 e, .int .i64 p, .int .i64 x0, .int .i64 x1, .int .i64 x2, .int .i64 x3, .int .i64 c]] => some (.tuple [.str (txtS a m l n r e p x0 x1 x2 x3 c), .int .i64 (errS a m l n r e p x0 x1 x2 x3 c)])
  | _ => none
noncomputable abbrev la3 : CF Prop := lastFn 30 sumR (lastFn 36 sumR la2)
noncomputable abbrev la4 : CF Prop := lastFn 12 bytR (lastFn 17 recR la3)
abbrev tbB : Nat → Option AFunc := fun f => bif Nat.beq f 28 then some c28 else bif Nat.beq f 29 then some c29 else bif Nat.beq f 35 then some c35 else none
abbrev tbG : Nat → Option AFunc := fun f => bif Nat.beq f 14 then some c14 else none
def magicB (s : List Nat) : Bool := beqL (s.take 4) [66, 89, 83, 1]
def num (s : List Nat) (i : Nat) : Nat := s.getD i 0 + s.getD (i + 1) 0 * 256 + s.getD (i + 2) 0 * 65536 + s.getD (i + 3) 0 * 16777216
abbrev nI (s : List Nat) (i : Nat) : Int := ((num s i : Nat) : Int)
noncomputable def rigR (s : List Nat) : Bool := rightS (nI s 4) (nI s 8) (nI s 12) (nI s 16) (nI s 20) (nI s 24) (nI s 28) (nI s 36) (nI s 40) (nI s 44) (nI s 48) (nI s 32)
noncomputable def recO (s : List Nat) : List Nat := recZ (nI s 4) (nI s 8) (nI s 12) (nI s 16) (nI s 20) (nI s 24) (nI s 28) (nI s 36) (nI s 40) (nI s 44) (nI s 48) (nI s 32)
noncomputable def errV (s : List Nat) : Int := if s.length = 64 ∧ magicB s = true then (if num s 60 = sumT (s.take 60) then (if rigR s = true ∧ beqL (recO s) s = true then 0 else 8) else 9) else 8
theorem errEx (s : List Nat) : ∃ b, b = errV s := ⟨_, rfl⟩
noncomputable def errR (s : List Nat) : Int := Classical.choose (errEx s)
theorem errR_eq (s : List Nat) : errR s = errV s := Classical.choose_spec (errEx s)
theorem fldEx (s : List Nat) (i : Nat) : ∃ b, b = (if errV s = 0 then nI s i else 0) := ⟨_, rfl⟩
noncomputable def fld (s : List Nat) (i : Nat) : Int := Classical.choose (fldEx s i)
theorem fld_eq (s : List Nat) (i : Nat) : fld s i = if errV s = 0 then nI s i else 0 := Classical.choose_spec (fldEx s i)
noncomputable abbrev rdV (s : List Nat) : V := .tuple [sup (fld s 4) (fld s 8) (fld s 12) (fld s 16) (fld s 20) (fld s 24) (fld s 28) (fld s 36) (fld s 40) (fld s 44) (fld s 48) (fld s 32), .int .i64 (errR s)]
section
variable {s : List Nat}
theorem rdE {k : Int} (h : errV s = k) (hk : k ≠ 0) : V.tuple [sup 0 0 0 0 0 0 0 0 0 0 0 0, .int .i64 k] = rdV s := by
  have h0 : ∀ i, fld s i = 0 := fun i => by rw [fld_eq, h, if_neg hk]
  simp only [rdV, h0, errR_eq, h]
theorem rdL (h : s.length ≠ 64) : V.tuple [sup 0 0 0 0 0 0 0 0 0 0 0 0, .int .i64 8] = rdV s := rdE (by unfold errV; rw [if_neg fun x => h x.1]) (by decide)
theorem rdM (l : s.length = 64) (h : nB (magicB s) = true) : V.tuple [sup 0 0 0 0 0 0 0 0 0 0 0 0, .int .i64 8] = rdV s := rdE (by unfold errV; rw [if_neg fun x => by simp [x.2] at h]) (by decide)
theorem rdS (l : s.length = 64) (h : nB (magicB s) = false) (g : ¬ nI s 60 = ((sumT (s.take 60) : Nat) : Int)) : V.tuple [sup 0 0 0 0 0 0 0 0 0 0 0 0, .int .i64 9] = rdV s := rdE (by unfold errV; rw [if_pos ⟨l, by simpa using h⟩, if_neg fun x => g (by rw [nI, x])]) (by decide)
theorem rdZ (l : s.length = 64) (h : nB (magicB s) = false) (g : ¬ ¬ nI s 60 = ((sumT (s.take 60) : Nat) : Int)) (q : ¬ (rigR s = true ∧ beqL (recO s) s = true)) : V.tuple [sup 0 0 0 0 0 0 0 0 0 0 0 0, .int .i64 8] = rdV s :=
  rdE (by unfold errV; rw [if_pos ⟨l, by simpa using h⟩, if_pos (by have := Classical.not_not.1 g; unfold nI at this; omega), if_neg q]) (by decide)
theorem rdG (l : s.length = 64) (h : nB (magicB s) = false) (g : ¬ ¬ nI s 60 = ((sumT (s.take 60) : Nat) : Int)) (q : rigR s = true) (z : beqL (recO s) s = true) :
    V.tuple [sup (nI s 4) (nI s 8) (nI s 12) (nI s 16) (nI s 20) (nI s 24) (nI s 28) (nI s 36) (nI s 40) (nI s 44) (nI s 48) (nI s 32), .int .i64 0] = rdV s := by
  have e : errV s = 0 := by unfold errV; rw [if_pos ⟨l, by simpa using h⟩, if_pos (by have := Classical.not_not.1 g; unfold nI at this; omega), if_pos ⟨q, z⟩]
  have h0 : ∀ i, fld s i = nI s i := fun i => by rw [fld_eq, e, if_pos rfl]
  simp only [rdV, h0, errR_eq, e]
noncomputable abbrev errO (s : List Nat) : Int := errS (nI s 4) (nI s 8) (nI s 12) (nI s 16) (nI s 20) (nI s 24) (nI s 28) (nI s 36) (nI s 40) (nI s 44) (nI s 48) (nI s 32)
noncomputable abbrev txtO (s : List Nat) : List Nat := txtS (nI s 4) (nI s 8) (nI s 12) (nI s 16) (nI s 20) (nI s 24) (nI s 28) (nI s 36) (nI s 40) (nI s 44) (nI s 48) (nI s 32)
theorem errO_t (h : rigR s = true) : errO s = 0 := by unfold rigR at h; simp [errS, h]
theorem errO_f (h : rigR s = false) : errO s = 1 := by unfold rigR at h; simp [errS, h]
theorem rdF (l : s.length = 64) (h : nB (magicB s) = false) (g : ¬ ¬ nI s 60 = ((sumT (s.take 60) : Nat) : Int)) (q : ¬ errO s = 0) : V.tuple [sup 0 0 0 0 0 0 0 0 0 0 0 0, .int .i64 8] = rdV s :=
  rdZ l h g fun x => q (errO_t x.1)
theorem rig_of (q : ¬ ¬ errO s = 0) : rigR s = true := by
  cases h : rigR s with
  | true => rfl
  | false => exact absurd (errO_f h) (by have := Classical.not_not.1 q; omega)
theorem txtO_t (h : rigR s = true) : txtO s = recO s := by unfold rigR at h; simp [txtS, recO, h]
theorem rdX (l : s.length = 64) (h : nB (magicB s) = false) (g : ¬ ¬ nI s 60 = ((sumT (s.take 60) : Nat) : Int)) (q : ¬ ¬ errO s = 0) (z : nB (beqL (txtO s) s) = true) : V.tuple [sup 0 0 0 0 0 0 0 0 0 0 0 0, .int .i64 8] = rdV s :=
  rdZ l h g fun x => by rw [txtO_t (rig_of q)] at z; simp [x.2] at z
theorem rdY (l : s.length = 64) (h : nB (magicB s) = false) (g : ¬ ¬ nI s 60 = ((sumT (s.take 60) : Nat) : Int)) (q : ¬ ¬ errO s = 0) (z : nB (beqL (txtO s) s) = false) :
    V.tuple [sup (nI s 4) (nI s 8) (nI s 12) (nI s 16) (nI s 20) (nI s 24) (nI s 28) (nI s 36) (nI s 40) (nI s 44) (nI s 48) (nI s 32), .int .i64 0] = rdV s :=
  rdG l h g (rig_of q) (by rw [txtO_t (rig_of q)] at z; simpa using z)
theorem zdF (l : s.length = 64) (h : nB (magicB s) = false) (g : ¬ ¬ nI s 60 = ((sumT (s.take 60) : Nat) : Int)) (q : nB (rigR s) = true) : V.tuple [sup 0 0 0 0 0 0 0 0 0 0 0 0, .int .i64 8] = rdV s :=
  rdZ l h g fun x => by simp [x.1] at q
theorem zdX (l : s.length = 64) (h : nB (magicB s) = false) (g : ¬ ¬ nI s 60 = ((sumT (s.take 60) : Nat) : Int)) (q : nB (rigR s) = false) (z : nB (beqL (recO s) s) = true) : V.tuple [sup 0 0 0 0 0 0 0 0 0 0 0 0, .int .i64 8] = rdV s :=
  rdZ l h g fun x => by simp [x.2] at z
theorem zdY (l : s.length = 64) (h : nB (magicB s) = false) (g : ¬ ¬ nI s 60 = ((sumT (s.take 60) : Nat) : Int)) (q : nB (rigR s) = false) (z : nB (beqL (recO s) s) = false) :
    V.tuple [sup (nI s 4) (nI s 8) (nI s 12) (nI s 16) (nI s 20) (nI s 24) (nI s 28) (nI s 36) (nI s 40) (nI s 44) (nI s 48) (nI s 32), .int .i64 0] = rdV s :=
  rdG l h g (by simpa using q) (by simpa using z)
end
noncomputable def rdR : List V → Option V
  | [.str s] => some (rdV s)
  | _ => none
noncomputable def pickV (z o : List Nat) : Int := if errR z = 0 ∧ (errR o ≠ 0 ∨ fld o 24 ≤ fld z 24) then 1 else if errR o = 0 then 2 else 0
theorem oflEx (z o : List Nat) (i : Nat) : ∃ b, b = (if pickV z o = 1 then fld z i else if pickV z o = 2 then fld o i else 0) := ⟨_, rfl⟩
noncomputable def ofl (z o : List Nat) (i : Nat) : Int := Classical.choose (oflEx z o i)
theorem ofl_eq (z o : List Nat) (i : Nat) : ofl z o i = if pickV z o = 1 then fld z i else if pickV z o = 2 then fld o i else 0 := Classical.choose_spec (oflEx z o i)
theorem othEx (z o : List Nat) : ∃ b : Int, b = (if pickV z o = 1 then 1 else 0) := ⟨_, rfl⟩
noncomputable def oth (z o : List Nat) : Int := Classical.choose (othEx z o)
theorem oth_eq (z o : List Nat) : oth z o = if pickV z o = 1 then 1 else 0 := Classical.choose_spec (othEx z o)
theorem okEx (z o : List Nat) : ∃ b, b = decide (pickV z o ≠ 0) := ⟨_, rfl⟩
noncomputable def okO (z o : List Nat) : Bool := Classical.choose (okEx z o)
theorem okO_eq (z o : List Nat) : okO z o = decide (pickV z o ≠ 0) := Classical.choose_spec (okEx z o)
noncomputable abbrev ofV (z o : List Nat) : V := .tuple [sup (ofl z o 4) (ofl z o 8) (ofl z o 12) (ofl z o 16) (ofl z o 20) (ofl z o 24) (ofl z o 28) (ofl z o 36) (ofl z o 40) (ofl z o 44) (ofl z o 48) (ofl z o 32), .int .i64 (oth z o), .bool (okO z o)]
theorem of1 {z o : List Nat} (h : errR z = 0 ∧ (errR o ≠ 0 ∨ fld o 24 ≤ fld z 24)) : V.tuple [sup (fld z 4) (fld z 8) (fld z 12) (fld z 16) (fld z 20) (fld z 24) (fld z 28) (fld z 36) (fld z 40) (fld z 44) (fld z 48) (fld z 32), .int .i64 1, .bool true] = ofV z o := by
  have e : pickV z o = 1 := if_pos h
  simp [ofV, ofl_eq, oth_eq, okO_eq, e]
theorem of2 {z o : List Nat} (h : ¬ (errR z = 0 ∧ (errR o ≠ 0 ∨ fld o 24 ≤ fld z 24)) ∧ errR o = 0) : V.tuple [sup (fld o 4) (fld o 8) (fld o 12) (fld o 16) (fld o 20) (fld o 24) (fld o 28) (fld o 36) (fld o 40) (fld o 44) (fld o 48) (fld o 32), .int .i64 0, .bool true] = ofV z o := by
  have e : pickV z o = 2 := by unfold pickV; rw [if_neg h.1, if_pos h.2]
  simp [ofV, ofl_eq, oth_eq, okO_eq, e]
theorem of0 {z o : List Nat} (h : errR z ≠ 0 ∧ errR o ≠ 0) : V.tuple [sup 0 0 0 0 0 0 0 0 0 0 0 0, .int .i64 0, .bool false] = ofV z o := by
  have e : pickV z o = 0 := by unfold pickV; rw [if_neg (fun x => h.1 x.1), if_neg h.2]
  simp [ofV, ofl_eq, oth_eq, okO_eq, e]
noncomputable def ofR : List V → Option V
  | [.str z, .str o] => some (ofV z o)
  | _ => none
noncomputable abbrev la6 : CF Prop := lastFn 18 rdR (lastFn 19 rdR la4)
theorem mono1 : MonoCF la1 := mono_fn (mono_fn mono_false)
theorem mono2 : MonoCF la2 := mono_fn (mono_fn mono1)
theorem mono3 : MonoCF la3 := mono_fn (mono_fn mono2)
abbrev zP (a m l n r e p c x0 x1 x2 x3 : Int) (t : List Nat) : List Nat := 66 :: 89 :: 83 :: 1 :: toU .u32 a % 256 :: toU .u32 a / 256 % 256 :: toU .u32 a / 65536 % 256 :: toU .u32 a / 16777216 :: toU .u32 m % 256 :: toU .u32 m / 256 % 256 :: toU .u32 m / 65536 % 256 :: toU .u32 m / 16777216 :: toU .u32 l % 256 :: toU .u32 l / 256 % 256 :: toU .u32 l / 65536 % 256 :: toU .u32 l / 16777216 :: toU .u32 n % 256 :: toU .u32 n / 256 % 256 :: toU .u32 n / 65536 % 256 :: toU .u32 n / 16777216 :: toU .u32 r % 256 :: toU .u32 r / 256 % 256 :: toU .u32 r / 65536 % 256 :: toU .u32 r / 16777216 :: toU .u32 e % 256 :: toU .u32 e / 256 % 256 :: toU .u32 e / 65536 % 256 :: toU .u32 e / 16777216 :: toU .u32 p % 256 :: toU .u32 p / 256 % 256 :: toU .u32 p / 65536 % 256 :: toU .u32 p / 16777216 :: toU .u32 c % 256 :: toU .u32 c / 256 % 256 :: toU .u32 c / 65536 % 256 :: toU .u32 c / 16777216 :: toU .u32 x0 % 256 :: toU .u32 x0 / 256 % 256 :: toU .u32 x0 / 65536 % 256 :: toU .u32 x0 / 16777216 :: toU .u32 x1 % 256 :: toU .u32 x1 / 256 % 256 :: toU .u32 x1 / 65536 % 256 :: toU .u32 x1 / 16777216 :: toU .u32 x2 % 256 :: toU .u32 x2 / 256 % 256 :: toU .u32 x2 / 65536 % 256 :: toU .u32 x2 / 16777216 :: toU .u32 x3 % 256 :: toU .u32 x3 / 256 % 256 :: toU .u32 x3 / 65536 % 256 :: toU .u32 x3 / 16777216 :: 0 :: 0 :: 0 :: 0 :: 0 :: 0 :: 0 :: 0 :: t
abbrev zB (a m l n r e p c x0 x1 x2 x3 : Int) : List Nat := zP a m l n r e p c x0 x1 x2 x3 []
theorem mono4 : MonoCF la4 := mono_fn (mono_fn mono3)
theorem mono6 : MonoCF la6 := mono_fn (mono_fn mono4)
end Go.Proofs.Ythmbmcpjakbepaa
