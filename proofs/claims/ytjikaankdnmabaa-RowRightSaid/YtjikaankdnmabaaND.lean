/- Needs: definitions. No condition. -/
import Derived.Test.YtjikaankdnmabaaVD
import Derived.Test.YtjikaankdnmabaaAM45
import Derived.Test.YtjikaankdnmabaaAM46
namespace Go.Proofs.Ytjikaankdnmabaa
open Go Go.AM
set_option maxRecDepth 100000
set_option maxHeartbeats 0
set_option linter.unusedVariables false
inductive S50 : Con → Prop
  | mk (L : List (Int × List Nat × Nat)) (c : Nat) (ro : Bool) (x : Int) : S50 ⟨[.int .i64 x, .ptr 0 0], [.cells [.map 1] false, .map (mV L) c ro], .bool (hasG L x), [.cells [.map 1] false, .map (mV L) c ro], []⟩
abbrev la50 : CF Prop := lastCl 50 S50 la0
theorem mono50 : MonoCF la50 := mono_cl mono_false
abbrev tbDel : Nat → Option AFunc := fun f => bif Nat.beq f 62 then some c62 else none
abbrev tbIx : Nat → Option AFunc := fun f => bif Nat.beq f 48 then some c48 else none
abbrev tbVal : Nat → Option AFunc := fun f => bif Nat.beq f 36 then some c36 else none
abbrev inP (b0 b1 b2 b3 : Bool) : List V := [.bool b0, .bool b1, .bool b2, .bool b3]
def inB4 (b0 b1 b2 b3 : Bool) (x : Int) : Bool := if x = 0 then b0 else if x = 1 then b1 else if x = 2 then b2 else b3
inductive S52 : Con → Prop
  | mk (b0 b1 b2 b3 : Bool) (x : Int) (h0 : 0 ≤ x) (h1 : x < 4) : S52 ⟨[.int .i64 x, .ptr 0 0], [.cells (inP b0 b1 b2 b3) false], .bool (!inB4 b0 b1 b2 b3 x), [.cells (inP b0 b1 b2 b3) false], []⟩
abbrev la52 : CF Prop := lastCl 52 S52 la0
theorem mono52 : MonoCF la52 := mono_cl mono_false
abbrev tbWh : Nat → Option AFunc := fun f => bif Nat.beq f 51 then some c51 else bif Nat.beq f 62 then some c62 else none
def restL (L : List (Int × List Nat × Nat)) (xs : List Int) : List Int := xs.filter fun x => !hasG L x
inductive S49 : Con → Prop
  | mk (L : List (Int × List Nat × Nat)) (c : Nat) (ro : Bool) (xs : List Int) (h1 : 1 ≤ xs.length) (h3 : xs.length ≤ 3) : S49 ⟨[.slice 0 0 xs.length xs.length 1, .func (.func 50) [] [.ptr 1 0]], [.cells (iV xs) false, .cells [.map 2] false, .map (mV L) c ro], .slice 0 0 (restL L xs).length xs.length 1, [.cells (iV (restL L xs ++ List.replicate (xs.length - (restL L xs).length) 0)) false, .cells [.map 2] false, .map (mV L) c ro], []⟩
inductive S37 : Con → Prop
  | mk (j k : Nat) (xs zs : List Int) (hj : xs.length = j) (h1 : 1 ≤ j) (h4 : j ≤ 4) (hk : (xs ++ zs).length = k) (k4 : k ≤ 4) : S37 ⟨[.func (.func 54) [] [.ptr 0 0]], [.cells [.slice 1 0 j k 1] false, .cells (iV (xs ++ zs)) false], .slice 2 0 j j 1, [.cells [.slice 1 0 j k 1] false, .cells (iV (xs ++ zs)) false], [(2, .cells (iV xs) false)]⟩
  | nil (k : Nat) (zs : List Int) (hk : zs.length = k) (k1 : 1 ≤ k) (k4 : k ≤ 4) : S37 ⟨[.func (.func 54) [] [.ptr 0 0]], [.cells [.slice 1 0 0 k 1] false, .cells (iV zs) false], .nilslice, [.cells [.slice 1 0 0 k 1] false, .cells (iV zs) false], []⟩
inductive S53 : Con → Prop
  | s (C : Con) (h : SortS C) : S53 C
  | nil : S53 ⟨[.nilslice], [], .tuple [], [], []⟩
abbrev la35 : CF Prop := lastC 37 S37 (lastC 53 S53 la0)
theorem mono35 : MonoCF la35 := mono_c (mono_c mono_false)
abbrev tbSn : Nat → Option AFunc := fun f => bif Nat.beq f 63 then some c63 else bif Nat.beq f 64 then some c64 else bif Nat.beq f 65 then some c65 else bif Nat.beq f 75 then some c75 else none
inductive S35 : Con → Prop
  | mk (j k : Nat) (xs zs : List Int) (hj : xs.length = j) (h1 : 1 ≤ j) (h4 : j ≤ 4) (hk : (xs ++ zs).length = k) (k4 : k ≤ 4) : S35 ⟨[.func (.func 54) [] [.ptr 0 0]], [.cells [.slice 1 0 j k 1] false, .cells (iV (xs ++ zs)) false], .slice 2 0 j j 1, [.cells [.slice 1 0 j k 1] false, .cells (iV (xs ++ zs)) false], [(2, .cells (iV (sortI xs)) false)]⟩
  | nil (k : Nat) (zs : List Int) (hk : zs.length = k) (k1 : 1 ≤ k) (k4 : k ≤ 4) : S35 ⟨[.func (.func 54) [] [.ptr 0 0]], [.cells [.slice 1 0 0 k 1] false, .cells (iV zs) false], .nilslice, [.cells [.slice 1 0 0 k 1] false, .cells (iV zs) false], []⟩
noncomputable def S16 : List V → Option Lay
  | [.agg [.int .i64 l, .int .i64 m, .int .i64 r], .int .i64 s] => if roB l m r s = true then some (.new (.slice (m - 1).toNat 1) none (.cells (dataF m (pz l m r s)) false)) else some (.plain .nilslice)
  | _ => none
theorem S16Ex : ∃ f, f = S16 := ⟨_, rfl⟩
noncomputable def S16s : List V → Option Lay := Classical.choose S16Ex
theorem S16s_eq : S16s = S16 := Classical.choose_spec S16Ex
noncomputable abbrev la33 : CF Prop := lastC 49 S49 (lastC 35 S35 (lastL 16 S16s la0))
theorem mono33 : MonoCF la33 := mono_c (mono_c (mono_l mono_false))
inductive S33 : Con → Prop
  | mk (l m r s : Int) (L : List (Int × List Nat × Nat)) (c : Nat) (ro : Bool) (ho : roB l m r s = true) (j : Nat) (hj : (restL L (dataL m (pz l m r s))).length = j) (h1 : 1 ≤ j) : S33 ⟨[geo l m r, .int .i64 s, .map 0], [.map (mV L) c ro], .slice 5 0 j j 1, [.map (mV L) c ro], [(5, .cells (iV (sortI (restL L (dataL m (pz l m r s))))) false)]⟩
  | nil (l m r s : Int) (L : List (Int × List Nat × Nat)) (c : Nat) (ro : Bool) (ho : roB l m r s = true) (hj : restL L (dataL m (pz l m r s)) = []) : S33 ⟨[geo l m r, .int .i64 s, .map 0], [.map (mV L) c ro], .nilslice, [.map (mV L) c ro], []⟩
inductive S34 : Con → Prop
  | mk (b0 b1 b2 b3 : Bool) (ys : List Int) (h : ∀ y ∈ ys, 0 ≤ y ∧ y < 4) (h1 : 1 ≤ ys.length) (h3 : ys.length ≤ 3) (j : Nat) (hj : ys.length = j) : S34 ⟨[ag b0 b1 b2 b3, .slice 0 0 j j 1], [.cells (iV ys) false], .bool (ys.all (inB4 b0 b1 b2 b3)), [.cells (iV ys) false], []⟩
  | nil (b0 b1 b2 b3 : Bool) : S34 ⟨[ag b0 b1 b2 b3, .nilslice], [], .bool true, [], []⟩
inductive S31 : Con → Prop
  | mk (xs : List Int) (x : Int) (k : Nat) (hk : xs.length = k) (h1 : 1 ≤ k) (h3 : k ≤ 3) : S31 ⟨[.slice 0 0 k k 1, .int .i64 x], [.cells (iV xs) false], .bool (decide (x ∈ xs)), [.cells (iV xs) false], []⟩
end Go.Proofs.Ytjikaankdnmabaa
