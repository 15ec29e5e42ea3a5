/- Makes: definitions. No condition. -/
import Derived.Test.YtjikaankdnmabaaNM
import Derived.Test.YtjikaankdnmabaaAM48
namespace Go.Proofs.Ytjikaankdnmabaa
open Go Go.AM
set_option maxRecDepth 100000
set_option maxHeartbeats 0
set_option linter.unusedVariables false
def c12l0b : ACode := sndC (sndC c12l0)
theorem c12l0_eq : c12l0 = rangeB s39 s38 s40 0 c12l0b := rfl
inductive S58 : Con → Prop
  | mk (G : List (Int × List Nat × Nat)) (c2 : Nat) (ro2 : Bool) (x : Int) : S58 ⟨[.int .i64 x, .ptr 0 0], [.cells [.map 1] false, .map (mV G) c2 ro2], .bool (!decide ((lookG G x).length = 64)), [.cells [.map 1] false, .map (mV G) c2 ro2], []⟩
abbrev la58 : CF Prop := lastCl 58 S58 la0
theorem mono58 : MonoCF la58 := mono_cl mono_false
abbrev tb58 : Nat → Option AFunc := fun f => bif Nat.beq f 32 then some c32 else none
def hasAll (G : List (Int × List Nat × Nat)) (ys : List Int) : Bool := ys.all fun y => decide ((lookG G y).length = 64)
inductive S41 : Con → Prop
  | mk (G : List (Int × List Nat × Nat)) (c2 : Nat) (ro2 : Bool) (ys : List Int) (j : Nat) (hj : ys.length = j) (h1 : 1 ≤ j) (h4 : j ≤ 4) : S41 ⟨[.map 0, .slice 1 0 j j 1], [.map (mV G) c2 ro2, .cells (iV ys) false], .bool (hasAll G ys), [.map (mV G) c2 ro2, .cells (iV ys) false], []⟩
  | nil (G : List (Int × List Nat × Nat)) (c2 : Nat) (ro2 : Bool) : S41 ⟨[.map 0, .nilslice], [.map (mV G) c2 ro2], .bool true, [.map (mV G) c2 ro2], []⟩
inductive S44 : Con → Prop
  | mk (G : List (Int × List Nat × Nat)) (c2 : Nat) (ro2 : Bool) (ys : List Int) (j : Nat) (hj : ys.length = j) (h1 : 1 ≤ j) (h4 : j ≤ 4) : S44 ⟨[.map 0, .slice 1 0 j j 1], [.map (mV G) c2 ro2, .cells (iV ys) false], .slice 2 0 j j 1, [.map (mV G) c2 ro2, .cells (iV ys) false], [(2, .cells (stV (ys.map (lookG G))) false)]⟩
  | nil (G : List (Int × List Nat × Nat)) (c2 : Nat) (ro2 : Bool) : S44 ⟨[.map 0, .nilslice], [.map (mV G) c2 ro2], .nilslice, [.map (mV G) c2 ro2], []⟩
inductive SQ42 : (EnL → Prop) → (EnL → Con) → Prop
  | mk (L : List (Int × List Nat × Nat)) (c : Nat) (ro : Bool) (n : Nat) (hn : L.length = n) (h1 : 1 ≤ n) (h2 : n ≤ 1000) (h : ∀ y ∈ L, y.2.2 < c) (hd : (L.map fun y => y.2.2).Nodup) : SQ42 (fun x => x.Perm (mV L)) (fun x => ⟨[.func (.func 60) [] [.ptr 0 0]], [.cells [.map 1] false, .map (mV L) c ro], .slice 2 0 n n 1, [.cells [.map 1] false, .map (mV L) c ro], [(2, .cells (tV x) false)]⟩)
def outG (b0 b1 b2 b3 : Bool) : Nat → EnL → List (Int × List Nat × Nat)
  | _, [] => []
  | i, e :: x => if inB4 b0 b1 b2 b3 (keyI e) = true then (keyI e, valI e, i) :: outG b0 b1 b2 b3 (i + 1) x else outG b0 b1 b2 b3 i x
abbrev tbS2 : Nat → Option AFunc := fun f => bif Nat.beq f 51 then some c51 else bif Nat.beq f 62 then some c62 else none
noncomputable abbrev la12 : CF Prop := lastC 10 S10 (lastC 41 S41 (lastC 44 S44 (lastC 28 S28 (lastQ 42 SQ42 (lastFn 27 R27 la0)))))
theorem mono12 : MonoCF la12 := mono_c (mono_c (mono_c (mono_c (mono_q (mono_fn mono_false)))))
abbrev tb12 : Nat → Option AFunc := fun f => bif Nat.beq f 43 then some c43 else none
end Go.Proofs.Ytjikaankdnmabaa
