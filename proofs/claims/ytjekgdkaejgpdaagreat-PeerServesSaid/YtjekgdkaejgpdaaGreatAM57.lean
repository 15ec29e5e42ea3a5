/- An abstract machine: an addition. No condition. -/
import Derived.Test.YtjekgdkaejgpdaaGreatAM56
import Derived.Test.YtjekgdkaejgpdaaGreatAMR
import Derived.Test.YtjekgdkaejgpdaaGreatAMb
namespace Go.AM
open Go
def lastM {R : Type} (A : Ans R) (tab : Nat → Option zAr) (lst : CF R) (d : Nat) : CF R := fun f args m K =>
  match f with
  | .func (.func g) (b :: bs) cap => zAt A tab lst d Ys.none (.func (.func g) [] cap) (b :: bs ++ args) m K
  | f => lst f args m K
theorem zJj (g : FuncId) (bs cap args : List Value) : zDb (.func (.func g) ⟨bs⟩ ⟨cap⟩) args = zDb (.func (.func g) ⟨[]⟩ ⟨cap⟩) (bs ++ args) := by
  unfold zDb
  simp only [Deferred.ofValue]
  congr 3
  simp
theorem lastM_ok {R : Type} {A : Ans R} {H : R → Prop} {P : Program} (hA : Holds A H) (hmix : P.follows .mixedOrders = true) {tab : Nat → Option zAr} (ht : zDx P tab) {lst : CF R} (hl : zAv P lst H) (d : Nat) : zAv P (lastM A tab lst d) H := by
  intro ρ₀ ρ m w f f' args args' K hle hm hf ha hH
  unfold lastM at hH
  split at hH
  · rename_i g b bs cap
    cases hf with | @func fn a bb a' b' h1 h2 =>
    have hs := zAn hA hmix ht hl d Ys.none ρ (YOk.none) ρ m w (.func (.func g) [] cap) (.func (.func g) ⟨[]⟩ ⟨b'⟩) (b :: bs ++ args) (a' ++ args') K (Ren.le_refl ρ) hm (.func .nil h2) (h1.append ha) hH
    rcases hs with ⟨g', xs, h3, h4⟩ | ⟨l, fn, ts, a2, b2, h3, _⟩
    · refine .inl ⟨g', xs, ?_, h4⟩
      rw [zJj]; exact h3
    · cases h3
  · exact hl ρ₀ ρ m w f f' args args' K hle hm hf ha hH
end Go.AM
