/- Needs: definitions. No condition. -/
import Derived.Test.YtjikaankdnmabaaND
import Derived.Test.YtjikaankdnmabaaAM42
namespace Go.Proofs.Ytjikaankdnmabaa
open Go Go.AM
set_option maxRecDepth 100000
set_option maxHeartbeats 0
set_option linter.unusedVariables false
def c10l0b : ACode := sndC (sndC c10l0)
theorem c10l0_eq : c10l0 = rangeB s29 s28 s30 0 c10l0b := rfl
def keyE (e : V × V × Nat) : Int := match e.1 with | .int _ n => n | _ => 0
def keysE (x : EnL) : List Int := x.map keyE
def keysG (L : List (Int × List Nat × Nat)) : List Int := L.map (·.1)
inductive SQ37 : (EnL → Prop) → (EnL → Con) → Prop
  | mk (L : List (Int × List Nat × Nat)) (c : Nat) (ro : Bool) (n : Nat) (hn : L.length = n) (h1 : 1 ≤ n) (h2 : n ≤ 1000) (h : ∀ y ∈ L, y.2.2 < c) (hd : (L.map fun y => y.2.2).Nodup) : SQ37 (fun x => x.Perm (mV L)) (fun x => ⟨[.func (.func 56) [] [.ptr 0 0]], [.cells [.map 1] false, .map (mV L) c ro], .slice 2 0 n n 1, [.cells [.map 1] false, .map (mV L) c ro], [(2, .cells (iV (keysE x)) false)]⟩)
noncomputable abbrev la10 : CF Prop := lastC 33 S33 (lastC 34 S34 (lastC 31 S31 (lastC 35 S35 (lastQ 37 SQ37 (lastFn 30 R30 (lastFn 27 R27 (lastL 16 S16s la0)))))))
theorem mono10 : MonoCF la10 := mono_c (mono_c (mono_c (mono_c (mono_q (mono_fn (mono_fn (mono_l mono_false)))))))
abbrev tb10 : Nat → Option AFunc := fun f => bif Nat.beq f 36 then some c36 else bif Nat.beq f 38 then some c38 else bif Nat.beq f 32 then some c32 else none
end Go.Proofs.Ytjikaankdnmabaa
