/- What the functions of package place answer: definitions. No condition. -/
import Derived.Test.YtefklpegpecliaaCodeN
import Derived.Test.YtefklpegpecliaaAM40
namespace Go.Proofs.Ytefklpegpecliaa
open Go Go.AM
set_option maxRecDepth 100000
set_option maxHeartbeats 0
set_option linter.unusedVariables false

def rgP (l m r : Int) : Prop := (l = 1 ∧ m = 2 ∨ l = 5 ∧ (m = 3 ∨ m = 4)) ∧ 2 ≤ r ∧ r ≤ 64 ∧ r % 2 = 0
instance (l m r : Int) : Decidable (rgP l m r) := by unfold rgP; infer_instance
theorem rgEx (l m r : Int) : ∃ b, b = decide (rgP l m r) := ⟨_, rfl⟩
noncomputable def rgB (l m r : Int) : Bool := Classical.choose (rgEx l m r)
theorem rgB_eq (l m r : Int) : rgB l m r = decide (rgP l m r) := Classical.choose_spec (rgEx l m r)
abbrev geo (l m r : Int) : V := .agg [.int .i64 l, .int .i64 m, .int .i64 r]
theorem szEx (l m r : Int) : ∃ b, b = (if rgP l m r then r * (m - 1) else 0) := ⟨_, rfl⟩
noncomputable def sz (l m r : Int) : Int := Classical.choose (szEx l m r)
theorem sz_eq (l m r : Int) : sz l m r = if rgP l m r then r * (m - 1) else 0 := Classical.choose_spec (szEx l m r)
theorem roEx (l m r s : Int) : ∃ b, b = decide (rgP l m r ∧ 0 ≤ s ∧ s < r) := ⟨_, rfl⟩
noncomputable def roB (l m r s : Int) : Bool := Classical.choose (roEx l m r s)
theorem roB_eq (l m r s : Int) : roB l m r s = decide (rgP l m r ∧ 0 ≤ s ∧ s < r) := Classical.choose_spec (roEx l m r s)
theorem pzEx (l m r s : Int) : ∃ b, b = (if rgP l m r ∧ 0 ≤ s ∧ s < r then (if l = 1 then 1 else m - 1 - s / 2 % m) else 0) := ⟨_, rfl⟩
noncomputable def pz (l m r s : Int) : Int := Classical.choose (pzEx l m r s)
theorem pz_eq (l m r s : Int) : pz l m r s = if rgP l m r ∧ 0 ≤ s ∧ s < r then (if l = 1 then 1 else m - 1 - s / 2 % m) else 0 := Classical.choose_spec (pzEx l m r s)
noncomputable def R10 : List V → Option V
  | [.agg [.int .i64 l, .int .i64 m, .int .i64 r]] => some (.bool (rgB l m r))
  | _ => none
noncomputable def R13 : List V → Option V
  | [.agg [.int .i64 l, .int .i64 m, .int .i64 r]] => some (.int .i64 (sz l m r))
  | _ => none
noncomputable def R22 : List V → Option V
  | [.agg [.int .i64 l, .int .i64 m, .int .i64 r], .int .i64 s] => some (.bool (roB l m r s))
  | _ => none
noncomputable def R16 : List V → Option V
  | [.agg [.int .i64 l, .int .i64 m, .int .i64 r], .int .i64 s] => some (.tuple [.int .i64 (pz l m r s), .bool (roB l m r s)])
  | _ => none
abbrev tbA : Nat → Option AFunc := fun f => bif Nat.beq f 17 then some c17 else none
theorem arEx (l m r s : Int) : ∃ b : Int, b = (if rgP l m r ∧ 0 ≤ s ∧ s < r * (m - 1) then s / 2 / (m - 1) * 2 + s % 2 else 0) := ⟨_, rfl⟩
noncomputable def ar (l m r s : Int) : Int := Classical.choose (arEx l m r s)
theorem ar_eq (l m r s : Int) : ar l m r s = if rgP l m r ∧ 0 ≤ s ∧ s < r * (m - 1) then s / 2 / (m - 1) * 2 + s % 2 else 0 := Classical.choose_spec (arEx l m r s)
theorem amEx (l m r s : Int) : ∃ b : Int, b = (if rgP l m r ∧ 0 ≤ s ∧ s < r * (m - 1) then (pz l m r (s / 2 / (m - 1) * 2 + s % 2) + 1 + s / 2 % (m - 1)) % m else 0) := ⟨_, rfl⟩
noncomputable def am (l m r s : Int) : Int := Classical.choose (amEx l m r s)
theorem am_eq (l m r s : Int) : am l m r s = if rgP l m r ∧ 0 ≤ s ∧ s < r * (m - 1) then (pz l m r (s / 2 / (m - 1) * 2 + s % 2) + 1 + s / 2 % (m - 1)) % m else 0 := Classical.choose_spec (amEx l m r s)
theorem abEx (l m r s : Int) : ∃ b, b = decide (rgP l m r ∧ 0 ≤ s ∧ s < r * (m - 1)) := ⟨_, rfl⟩
noncomputable def ab (l m r s : Int) : Bool := Classical.choose (abEx l m r s)
theorem ab_eq (l m r s : Int) : ab l m r s = decide (rgP l m r ∧ 0 ≤ s ∧ s < r * (m - 1)) := Classical.choose_spec (abEx l m r s)
noncomputable def R12 : List V → Option V
  | [.agg [.int .i64 l, .int .i64 m, .int .i64 r], .int .i64 s] => some (.tuple [.int .i64 (ar l m r s), .int .i64 (am l m r s), .bool (ab l m r s)])
  | _ => none
abbrev la0 : CF Prop := fun _ _ _ _ => False
noncomputable abbrev la1 : CF Prop := lastFn 10 R10 la0
noncomputable abbrev la2 : CF Prop := lastFn 13 R13 la1
noncomputable abbrev la3 : CF Prop := lastFn 22 R22 la2
noncomputable abbrev la4 : CF Prop := lastFn 16 R16 la3
noncomputable abbrev la5 : CF Prop := lastW 14 (lastFn 12 R12 la4)
abbrev tb0 : Nat → Option AFunc := fun _ => none
theorem mono1 : MonoCF la1 := mono_fn mono_false
theorem mono2 : MonoCF la2 := mono_fn mono1
theorem mono3 : MonoCF la3 := mono_fn mono2
theorem mono4 : MonoCF la4 := mono_fn mono3
theorem mono5 : MonoCF la5 := mono_w (mono_fn mono4)
theorem gT {l m r : Int} (h : rgP l m r) : V.bool true = V.bool (rgB l m r) := by rw [rgB_eq, decide_eq_true h]
theorem gF {l m r : Int} (h : ¬ rgP l m r) : V.bool false = V.bool (rgB l m r) := by rw [rgB_eq, decide_eq_false h]
theorem gD {l m r : Int} {q : Prop} [Decidable q] (h : q ↔ rgP l m r) : V.bool (decide q) = V.bool (rgB l m r) := by rw [rgB_eq]; exact congrArg V.bool (decide_eq_decide.2 h)
theorem oT {l m r s : Int} (h : rgP l m r ∧ 0 ≤ s ∧ s < r) : V.bool true = V.bool (roB l m r s) := by rw [roB_eq, decide_eq_true h]
theorem oF {l m r s : Int} (h : ¬ (rgP l m r ∧ 0 ≤ s ∧ s < r)) : V.bool false = V.bool (roB l m r s) := by rw [roB_eq, decide_eq_false h]
theorem oD {l m r s : Int} {q : Prop} [Decidable q] (h : q ↔ (rgP l m r ∧ 0 ≤ s ∧ s < r)) : V.bool (decide q) = V.bool (roB l m r s) := by rw [roB_eq]; exact congrArg V.bool (decide_eq_decide.2 h)

theorem ofNt (n : Nat) : Int.ofNat n = (n : Int) := rfl
def arF (m s : Int) : Int := s / 2 / (m - 1) * 2 + s % 2
def amF (l m s : Int) : Int := ((if l = 1 then 1 else m - 1 - arF m s / 2 % m) + 1 + s / 2 % (m - 1)) % m
def cellsF (l m : Int) : Nat → Nat → List V
  | 0, _ => []
  | k + 1, s => V.int .i64 (arF m (s : Int)) :: V.int .i64 (amF l m (s : Int)) :: cellsF l m k (s + 1)
theorem nth_row (l m : Int) : ∀ (n s i : Nat), i < n → nth (cellsF l m n s) (i * 2 + 0) = some (V.int .i64 (arF m ((s + i : Nat) : Int)))
  | 0, _, _, h => by omega
  | n + 1, s, 0, _ => rfl
  | n + 1, s, i + 1, h => by
    have e := nth_row l m n (s + 1) i (by omega)
    rw [show s + 1 + i = s + (i + 1) by omega] at e
    rw [show (i + 1) * 2 + 0 = i * 2 + 0 + 1 + 1 by omega]
    exact e
theorem nth_mem (l m : Int) : ∀ (n s i : Nat), i < n → nth (cellsF l m n s) (i * 2 + 1) = some (V.int .i64 (amF l m ((s + i : Nat) : Int)))
  | 0, _, _, h => by omega
  | n + 1, s, 0, _ => rfl
  | n + 1, s, i + 1, h => by
    have e := nth_mem l m n (s + 1) i (by omega)
    rw [show s + 1 + i = s + (i + 1) by omega] at e
    rw [show (i + 1) * 2 + 1 = i * 2 + 1 + 1 + 1 by omega]
    exact e
theorem plains_cellsF (l m : Int) : ∀ (n s : Nat), plains (cellsF l m n s) = true
  | 0, _ => rfl
  | n + 1, s => by simp only [cellsF, plains, V.plain, plains_cellsF l m n (s + 1), Bool.and_self]
def szN (m r : Int) : Nat := (r * (m - 1)).toNat
noncomputable def R19 : List V → Option V
  | [.agg [.int .i64 l, .int .i64 m, .int .i64 r], .int .i64 s] => if rgP l m r ∧ 0 ≤ s ∧ s < 64 then some (.int .i64 (if l = 1 then 1 else m - 1 - s / 2 % m)) else none
  | _ => none
theorem R19_1 {r s : Int} (g : rgP 1 2 r) (h0 : 0 ≤ s) (h1 : s < 64) : R19 [.agg [.int .i64 1, .int .i64 2, .int .i64 r], .int .i64 s] = some (.int .i64 1) := by
  show (if rgP 1 2 r ∧ 0 ≤ s ∧ s < 64 then some (V.int .i64 (if (1 : Int) = 1 then 1 else 2 - 1 - s / 2 % 2)) else none) = _
  rw [if_pos ⟨g, h0, h1⟩, if_pos rfl]
theorem R19_5 {m k r s : Int} (hk : m - 1 = k) (g : rgP 5 m r) (h0 : 0 ≤ s) (h1 : s < 64) : R19 [.agg [.int .i64 5, .int .i64 m, .int .i64 r], .int .i64 s] = some (.int .i64 (k - s / 2 % m)) := by
  subst hk
  show (if rgP 5 m r ∧ 0 ≤ s ∧ s < 64 then some (V.int .i64 (if (5 : Int) = 1 then 1 else m - 1 - s / 2 % m)) else none) = _
  rw [if_pos ⟨g, h0, h1⟩, if_neg (by decide)]
/-- The members of a row's data; where their sectors lie in the list; what is found of a member. -/
def dataL (m p : Int) : List Int := (List.range (m - 1).toNat).map fun d : Nat => (p + 1 + (d : Int)) % m
def dataF (m p : Int) : List V := (dataL m p).map fun x => V.int .i64 x
def tF (m s : Int) (d : Nat) : Int := (s / 2 * (m - 1) + d) * 2 + s % 2
/-- The places of a row in the list, with the members there. -/
def tsF (m p s : Int) : Nat → List Int → List (Int × Int)
  | _, [] => []
  | d, x :: l => (tF m s d, x) :: tsF m p s (d + 1) l
def wF : List (Int × Int) → Int → Int → Int
  | [], _, _ => 0
  | (t, x) :: l, y, i => if x = y ∧ t < i then t else wF l y i
def fF : List (Int × Int) → Int → Int → Bool
  | [], _, _ => false
  | (t, x) :: l, y, i => decide (x = y ∧ t < i) || fF l y i
def kF : List (Int × Int) → Int → Int
  | [], _ => 0
  | (t, _) :: l, i => (if t < i then 1 else 0) + kF l i
noncomputable def secF (l m r s x : Int) : Int × Bool := if roB l m r s = true then (wF (tsF m (pz l m r s) s 0 (dataL m (pz l m r s))) x (r * (m - 1)), fF (tsF m (pz l m r s) s 0 (dataL m (pz l m r s))) x (r * (m - 1))) else (0, false)
noncomputable def S15 : List V → Option Lay
  | [.agg [.int .i64 l, .int .i64 m, .int .i64 r]] => if rgP l m r then some (.new (.slice (szN m r) 2) none (.cells (cellsF l m (szN m r) 0) false)) else none
  | _ => none
theorem S15_y {l m r : Int} (g : rgP l m r) : S15 [.agg [.int .i64 l, .int .i64 m, .int .i64 r]] = some (.new (.slice (szN m r) 2) none (.cells (cellsF l m (szN m r) 0) false)) := if_pos g
theorem leafA {l m r : Int} {n b : Nat} {X : List V} (h : r * (m - 1) = (n : Int)) (e : X = cellsF l m n 0) : V.slice b 0 n n 2 = layV (Hd.slice (szN m r) 2) none b ∧ some (AObj.cells X false) = some (AObj.cells (cellsF l m (szN m r) 0) false) := by
  have hz : szN m r = n := by unfold szN; rw [h]; rfl
  rw [hz, e]
  exact ⟨rfl, rfl⟩
noncomputable def S17 : List V → Option Lay
  | [.agg [.int .i64 l, .int .i64 m, .int .i64 r], .int .i64 s] => if roB l m r s = true then some (.new (.slice (m - 1).toNat 1) none (.cells (dataF m (pz l m r s)) false)) else some (.plain .nilslice)
  | _ => none
theorem scEx (l m r s x : Int) : ∃ b, b = (secF l m r s x).1 := ⟨_, rfl⟩
noncomputable def scI (l m r s x : Int) : Int := Classical.choose (scEx l m r s x)
theorem scI_eq (l m r s x : Int) : scI l m r s x = (secF l m r s x).1 := Classical.choose_spec (scEx l m r s x)
theorem sbEx (l m r s x : Int) : ∃ b, b = (secF l m r s x).2 := ⟨_, rfl⟩
noncomputable def scB (l m r s x : Int) : Bool := Classical.choose (sbEx l m r s x)
theorem scB_eq (l m r s x : Int) : scB l m r s x = (secF l m r s x).2 := Classical.choose_spec (sbEx l m r s x)
noncomputable def R18 : List V → Option V
  | [.agg [.int .i64 l, .int .i64 m, .int .i64 r], .int .i64 s, .int .i64 x] => some (.tuple [.int .i64 (scI l m r s x), .bool (scB l m r s x)])
  | _ => none
noncomputable abbrev la8 : CF Prop := lastL 17 S17 la4
noncomputable abbrev la9 : CF Prop := lastW 14 (lastFn 18 R18 (lastL 17 S17 (lastL 15 S15 (lastFn 11 R10 (lastFn 19 R19 la4)))))
theorem mono8 : MonoCF la8 := mono_l mono4
theorem mono9 : MonoCF la9 := mono_w (mono_fn (mono_l (mono_l (mono_fn (mono_fn mono4)))))
abbrev tb23 : Nat → Option AFunc := fun f => bif Nat.beq f 23 then some c23 else none
noncomputable abbrev la6 : CF Prop := lastFn 19 R19 la0
noncomputable abbrev la7 : CF Prop := lastW 14 (lastL 15 S15 (lastFn 11 R10 (lastFn 12 R12 la4)))
theorem mono6 : MonoCF la6 := mono_fn mono_false
theorem mono7 : MonoCF la7 := mono_w (mono_l (mono_fn (mono_fn mono4)))

def fstC : ACode → ACode
  | .seq a _ => a
  | c => c
def sndC : ACode → ACode
  | .seq _ b => b
  | c => c
def inB : ACode → ACode
  | .block _ b => b
  | c => c
abbrev d1 : ACode := fstC c20.body
abbrev d1r : ACode := sndC c20.body
abbrev d2 : ACode := fstC d1r
abbrev d2r : ACode := sndC d1r
abbrev d3 : ACode := fstC d2r
abbrev d3r : ACode := sndC d2r
abbrev d4 : ACode := fstC d3r
abbrev d4r : ACode := sndC d3r
abbrev d5 : ACode := fstC (fstC d4r)
abbrev d6 : ACode := sndC d4r
/-- The rows of sectors from F on. -/
noncomputable def rl (l m r : Int) (F : Nat) : Nat → List Int
  | 0 => []
  | i + 1 => rl l m r F i ++ [ar l m r ((F + i : Nat) : Int)]
inductive S24 : Con → Prop
  | mk (zs : List Int) (h : zs ≠ []) (hl : zs.length < 4611686018427387904) : S24 ⟨[.slice 0 0 zs.length zs.length 1], [.cells (iV zs) false], .tuple [], [.cells (iV (zs.mergeSort fun x y => decide (x ≤ y))) false], []⟩
inductive S25 : Con → Prop
  | mk (zs : List Int) (h : zs ≠ []) (hl : zs.length < 4611686018427387904) : S25 ⟨[.slice 0 0 zs.length zs.length 1], [.cells (iV zs) false], .slice 0 0 (Go.Lib.compact zs).length zs.length 1, [.cells (iV (Go.Lib.compact zs ++ List.replicate (zs.length - (Go.Lib.compact zs).length) 0)) false], []⟩
noncomputable abbrev laR : CF Prop := lastC 24 S24 (lastC 25 S25 (lastFn 12 R12 la4))
theorem monoR : MonoCF laR := mono_c (mono_c (mono_fn mono4))

end Go.Proofs.Ytefklpegpecliaa
