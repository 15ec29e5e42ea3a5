/- Noughts. No condition. -/
import Derived.Test.YthmbmcpjakbepaaSK
namespace Go.Proofs.Ythmbmcpjakbepaa
open Go Go.AM
set_option maxRecDepth 100000
set_option maxHeartbeats 0
set_option linter.unusedVariables false
theorem zzEx : ∃ b : List Nat, b = List.replicate 64 0 := ⟨_, rfl⟩
noncomputable def zz : List Nat := Classical.choose zzEx
theorem zz_eq : zz = List.replicate 64 0 := Classical.choose_spec zzEx
noncomputable def zerR : List V → Option V
  | [] => some (.str zz)
  | _ => none
theorem ofREx : ∃ f, f = ofR := ⟨_, rfl⟩
noncomputable def ofRs : List V → Option V := Classical.choose ofREx
theorem ofRs_eq : ofRs = ofR := Classical.choose_spec ofREx
theorem zeros (Y : Ys Prop)  (K : V → Mem → Prop) (hK : ∀ mm, K (.str zz) mm) :
   body1 pA (callD pA tb0 la0 5) Y c22 [] ⟨0, .leaf⟩ K :=
  walk_of_vc (mono_false) .nil
  (show (V.str (0 :: 0 :: 0 :: 0 :: 0 :: 0 :: 0 :: 0 :: 0 :: 0 :: 0 :: 0 :: 0 :: 0 :: 0 :: 0 :: 0 :: 0 :: 0 :: 0 :: 0 :: 0 :: 0 :: 0 :: 0 :: 0 :: 0 :: 0 :: 0 :: 0 :: 0 :: 0 :: 0 :: 0 :: 0 :: 0 :: 0 :: 0 :: 0 :: 0 :: 0 :: 0 :: 0 :: 0 :: 0 :: 0 :: 0 :: 0 :: 0 :: 0 :: 0 :: 0 :: 0 :: 0 :: 0 :: 0 :: 0 :: 0 :: 0 :: 0 :: 0 :: 0 :: 0 :: 0 :: []) = V.str zz) from
  (by rw [zz_eq]; kernel_rfl))
  (by kernel_rfl) Y K hK
end Go.Proofs.Ythmbmcpjakbepaa
