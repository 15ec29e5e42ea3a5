/- Runs of the functions of package row, by script. No condition. -/
import Derived.Test.YtjikaankdnmabaaVD
namespace Go.Proofs.Ytjikaankdnmabaa
open Go Go.AM
set_option maxRecDepth 100000
set_option maxHeartbeats 0
set_option linter.unusedVariables false
theorem m30_n (Y : Ys Prop) (l m r s : Int) (b0 b1 b2 b3 : Bool) (o : roB l m r s = false) (z : pz l m r s = 0) (K : V → Mem → Prop) (hK : ∀ mm, K (.int .i64 1) mm) :
   body1 pA (callD pA tb0 la3 5) Y c30 [geo l m r, .int .i64 s, ag b0 b1 b2 b3] ⟨0, .leaf⟩ K :=
  walk_of_vc (mono3) (.wait 6 (.fix s14 (V.tuple [vi 0, vb false]) .nil))
  (show (V.tuple [vi (pz l m r s), vb (roB l m r s)] = V.tuple [vi 0, vb false] ∧ vi (Int.ofNat 1) = vi 1) from
  ⟨(congrArg V.tuple (consE (ci z) (consE (cb o) rfl))), (by rfl)⟩)
  (by kernel_rfl) Y K hK
theorem m30_2_0 (Y : Ys Prop) (r s : Int) (b2 : Bool) (b3 : Bool) (o : roB 1 2 r s = true) (K : V → Mem → Prop) (hK : ∀ mm, K (.int .i64 20) mm) :
   body1 pA (callD pA tb0 la3 5) Y c30 [geo 1 2 r, .int .i64 s, ag false false b2 b3] ⟨0, .leaf⟩ K :=
  walk_of_vc (mono3) (.wait 6 (.fix s14 (V.tuple [vi (pz 1 2 r s), vb true]) .nil))
  (show (V.tuple [vi (pz 1 2 r s), vb (roB 1 2 r s)] = V.tuple [vi (pz 1 2 r s), vb true] ∧ vi (Int.ofNat 20) = vi 20) from
  ⟨(congrArg V.tuple (consE rfl (consE (cb o) rfl))), (by rfl)⟩)
  (by kernel_rfl) Y K hK
theorem m30_2_1 (Y : Ys Prop) (r s : Int) (b2 : Bool) (b3 : Bool) (o : roB 1 2 r s = true) (K : V → Mem → Prop) (hK : ∀ mm, K (.int .i64 0) mm) :
   body1 pA (callD pA tb0 la3 5) Y c30 [geo 1 2 r, .int .i64 s, ag true false b2 b3] ⟨0, .leaf⟩ K :=
  walk_of_vc (mono3) (.wait 6 (.fix s14 (V.tuple [vi (pz 1 2 r s), vb true]) .nil))
  (show (V.tuple [vi (pz 1 2 r s), vb (roB 1 2 r s)] = V.tuple [vi (pz 1 2 r s), vb true] ∧ vi (Int.ofNat 0) = vi 0) from
  ⟨(congrArg V.tuple (consE rfl (consE (cb o) rfl))), (by rfl)⟩)
  (by kernel_rfl) Y K hK
theorem m30_2_2 (Y : Ys Prop) (r s : Int) (b2 : Bool) (b3 : Bool) (o : roB 1 2 r s = true) (K : V → Mem → Prop) (hK : ∀ mm, K (.int .i64 0) mm) :
   body1 pA (callD pA tb0 la3 5) Y c30 [geo 1 2 r, .int .i64 s, ag false true b2 b3] ⟨0, .leaf⟩ K :=
  walk_of_vc (mono3) (.wait 6 (.fix s14 (V.tuple [vi (pz 1 2 r s), vb true]) .nil))
  (show (V.tuple [vi (pz 1 2 r s), vb (roB 1 2 r s)] = V.tuple [vi (pz 1 2 r s), vb true] ∧ vi (Int.ofNat 0) = vi 0) from
  ⟨(congrArg V.tuple (consE rfl (consE (cb o) rfl))), (by rfl)⟩)
  (by kernel_rfl) Y K hK
theorem m30_2_3 (Y : Ys Prop) (r s : Int) (b2 : Bool) (b3 : Bool) (o : roB 1 2 r s = true) (K : V → Mem → Prop) (hK : ∀ mm, K (.int .i64 0) mm) :
   body1 pA (callD pA tb0 la3 5) Y c30 [geo 1 2 r, .int .i64 s, ag true true b2 b3] ⟨0, .leaf⟩ K :=
  walk_of_vc (mono3) (.wait 6 (.fix s14 (V.tuple [vi (pz 1 2 r s), vb true]) .nil))
  (show (V.tuple [vi (pz 1 2 r s), vb (roB 1 2 r s)] = V.tuple [vi (pz 1 2 r s), vb true] ∧ vi (Int.ofNat 0) = vi 0) from
  ⟨(congrArg V.tuple (consE rfl (consE (cb o) rfl))), (by rfl)⟩)
  (by kernel_rfl) Y K hK
theorem m30_3_0 (Y : Ys Prop) (r s : Int) (b3 : Bool) (o : roB 5 3 r s = true) (K : V → Mem → Prop) (hK : ∀ mm, K (.int .i64 20) mm) :
   body1 pA (callD pA tb0 la3 5) Y c30 [geo 5 3 r, .int .i64 s, ag false false false b3] ⟨0, .leaf⟩ K :=
  walk_of_vc (mono3) (.wait 6 (.fix s14 (V.tuple [vi (pz 5 3 r s), vb true]) .nil))
  (show (V.tuple [vi (pz 5 3 r s), vb (roB 5 3 r s)] = V.tuple [vi (pz 5 3 r s), vb true] ∧ vi (Int.ofNat 20) = vi 20) from
  ⟨(congrArg V.tuple (consE rfl (consE (cb o) rfl))), (by rfl)⟩)
  (by kernel_rfl) Y K hK
theorem m30_3_1 (Y : Ys Prop) (r s : Int) (b3 : Bool) (o : roB 5 3 r s = true) (K : V → Mem → Prop) (hK : ∀ mm, K (.int .i64 20) mm) :
   body1 pA (callD pA tb0 la3 5) Y c30 [geo 5 3 r, .int .i64 s, ag true false false b3] ⟨0, .leaf⟩ K :=
  walk_of_vc (mono3) (.wait 6 (.fix s14 (V.tuple [vi (pz 5 3 r s), vb true]) .nil))
  (show (V.tuple [vi (pz 5 3 r s), vb (roB 5 3 r s)] = V.tuple [vi (pz 5 3 r s), vb true] ∧ vi (Int.ofNat 20) = vi 20) from
  ⟨(congrArg V.tuple (consE rfl (consE (cb o) rfl))), (by rfl)⟩)
  (by kernel_rfl) Y K hK
theorem m30_3_2 (Y : Ys Prop) (r s : Int) (b3 : Bool) (o : roB 5 3 r s = true) (K : V → Mem → Prop) (hK : ∀ mm, K (.int .i64 20) mm) :
   body1 pA (callD pA tb0 la3 5) Y c30 [geo 5 3 r, .int .i64 s, ag false true false b3] ⟨0, .leaf⟩ K :=
  walk_of_vc (mono3) (.wait 6 (.fix s14 (V.tuple [vi (pz 5 3 r s), vb true]) .nil))
  (show (V.tuple [vi (pz 5 3 r s), vb (roB 5 3 r s)] = V.tuple [vi (pz 5 3 r s), vb true] ∧ vi (Int.ofNat 20) = vi 20) from
  ⟨(congrArg V.tuple (consE rfl (consE (cb o) rfl))), (by rfl)⟩)
  (by kernel_rfl) Y K hK
theorem m30_3_3 (Y : Ys Prop) (r s : Int) (b3 : Bool) (o : roB 5 3 r s = true) (K : V → Mem → Prop) (hK : ∀ mm, K (.int .i64 0) mm) :
   body1 pA (callD pA tb0 la3 5) Y c30 [geo 5 3 r, .int .i64 s, ag true true false b3] ⟨0, .leaf⟩ K :=
  walk_of_vc (mono3) (.wait 6 (.fix s14 (V.tuple [vi (pz 5 3 r s), vb true]) .nil))
  (show (V.tuple [vi (pz 5 3 r s), vb (roB 5 3 r s)] = V.tuple [vi (pz 5 3 r s), vb true] ∧ vi (Int.ofNat 0) = vi 0) from
  ⟨(congrArg V.tuple (consE rfl (consE (cb o) rfl))), (by rfl)⟩)
  (by kernel_rfl) Y K hK
theorem m30_3_4 (Y : Ys Prop) (r s : Int) (b3 : Bool) (o : roB 5 3 r s = true) (K : V → Mem → Prop) (hK : ∀ mm, K (.int .i64 20) mm) :
   body1 pA (callD pA tb0 la3 5) Y c30 [geo 5 3 r, .int .i64 s, ag false false true b3] ⟨0, .leaf⟩ K :=
  walk_of_vc (mono3) (.wait 6 (.fix s14 (V.tuple [vi (pz 5 3 r s), vb true]) .nil))
  (show (V.tuple [vi (pz 5 3 r s), vb (roB 5 3 r s)] = V.tuple [vi (pz 5 3 r s), vb true] ∧ vi (Int.ofNat 20) = vi 20) from
  ⟨(congrArg V.tuple (consE rfl (consE (cb o) rfl))), (by rfl)⟩)
  (by kernel_rfl) Y K hK
theorem m30_3_5 (Y : Ys Prop) (r s : Int) (b3 : Bool) (o : roB 5 3 r s = true) (K : V → Mem → Prop) (hK : ∀ mm, K (.int .i64 0) mm) :
   body1 pA (callD pA tb0 la3 5) Y c30 [geo 5 3 r, .int .i64 s, ag true false true b3] ⟨0, .leaf⟩ K :=
  walk_of_vc (mono3) (.wait 6 (.fix s14 (V.tuple [vi (pz 5 3 r s), vb true]) .nil))
  (show (V.tuple [vi (pz 5 3 r s), vb (roB 5 3 r s)] = V.tuple [vi (pz 5 3 r s), vb true] ∧ vi (Int.ofNat 0) = vi 0) from
  ⟨(congrArg V.tuple (consE rfl (consE (cb o) rfl))), (by rfl)⟩)
  (by kernel_rfl) Y K hK
theorem m30_3_6 (Y : Ys Prop) (r s : Int) (b3 : Bool) (o : roB 5 3 r s = true) (K : V → Mem → Prop) (hK : ∀ mm, K (.int .i64 0) mm) :
   body1 pA (callD pA tb0 la3 5) Y c30 [geo 5 3 r, .int .i64 s, ag false true true b3] ⟨0, .leaf⟩ K :=
  walk_of_vc (mono3) (.wait 6 (.fix s14 (V.tuple [vi (pz 5 3 r s), vb true]) .nil))
  (show (V.tuple [vi (pz 5 3 r s), vb (roB 5 3 r s)] = V.tuple [vi (pz 5 3 r s), vb true] ∧ vi (Int.ofNat 0) = vi 0) from
  ⟨(congrArg V.tuple (consE rfl (consE (cb o) rfl))), (by rfl)⟩)
  (by kernel_rfl) Y K hK
theorem m30_3_7 (Y : Ys Prop) (r s : Int) (b3 : Bool) (o : roB 5 3 r s = true) (K : V → Mem → Prop) (hK : ∀ mm, K (.int .i64 0) mm) :
   body1 pA (callD pA tb0 la3 5) Y c30 [geo 5 3 r, .int .i64 s, ag true true true b3] ⟨0, .leaf⟩ K :=
  walk_of_vc (mono3) (.wait 6 (.fix s14 (V.tuple [vi (pz 5 3 r s), vb true]) .nil))
  (show (V.tuple [vi (pz 5 3 r s), vb (roB 5 3 r s)] = V.tuple [vi (pz 5 3 r s), vb true] ∧ vi (Int.ofNat 0) = vi 0) from
  ⟨(congrArg V.tuple (consE rfl (consE (cb o) rfl))), (by rfl)⟩)
  (by kernel_rfl) Y K hK
theorem m30_4_0 (Y : Ys Prop) (r s : Int) (o : roB 5 4 r s = true) (K : V → Mem → Prop) (hK : ∀ mm, K (.int .i64 20) mm) :
   body1 pA (callD pA tb0 la3 5) Y c30 [geo 5 4 r, .int .i64 s, ag false false false false] ⟨0, .leaf⟩ K :=
  walk_of_vc (mono3) (.wait 6 (.fix s14 (V.tuple [vi (pz 5 4 r s), vb true]) .nil))
  (show (V.tuple [vi (pz 5 4 r s), vb (roB 5 4 r s)] = V.tuple [vi (pz 5 4 r s), vb true] ∧ vi (Int.ofNat 20) = vi 20) from
  ⟨(congrArg V.tuple (consE rfl (consE (cb o) rfl))), (by rfl)⟩)
  (by kernel_rfl) Y K hK
theorem m30_4_1 (Y : Ys Prop) (r s : Int) (o : roB 5 4 r s = true) (K : V → Mem → Prop) (hK : ∀ mm, K (.int .i64 20) mm) :
   body1 pA (callD pA tb0 la3 5) Y c30 [geo 5 4 r, .int .i64 s, ag true false false false] ⟨0, .leaf⟩ K :=
  walk_of_vc (mono3) (.wait 6 (.fix s14 (V.tuple [vi (pz 5 4 r s), vb true]) .nil))
  (show (V.tuple [vi (pz 5 4 r s), vb (roB 5 4 r s)] = V.tuple [vi (pz 5 4 r s), vb true] ∧ vi (Int.ofNat 20) = vi 20) from
  ⟨(congrArg V.tuple (consE rfl (consE (cb o) rfl))), (by rfl)⟩)
  (by kernel_rfl) Y K hK
theorem m30_4_2 (Y : Ys Prop) (r s : Int) (o : roB 5 4 r s = true) (K : V → Mem → Prop) (hK : ∀ mm, K (.int .i64 20) mm) :
   body1 pA (callD pA tb0 la3 5) Y c30 [geo 5 4 r, .int .i64 s, ag false true false false] ⟨0, .leaf⟩ K :=
  walk_of_vc (mono3) (.wait 6 (.fix s14 (V.tuple [vi (pz 5 4 r s), vb true]) .nil))
  (show (V.tuple [vi (pz 5 4 r s), vb (roB 5 4 r s)] = V.tuple [vi (pz 5 4 r s), vb true] ∧ vi (Int.ofNat 20) = vi 20) from
  ⟨(congrArg V.tuple (consE rfl (consE (cb o) rfl))), (by rfl)⟩)
  (by kernel_rfl) Y K hK
theorem m30_4_3 (Y : Ys Prop) (r s : Int) (o : roB 5 4 r s = true) (K : V → Mem → Prop) (hK : ∀ mm, K (.int .i64 20) mm) :
   body1 pA (callD pA tb0 la3 5) Y c30 [geo 5 4 r, .int .i64 s, ag true true false false] ⟨0, .leaf⟩ K :=
  walk_of_vc (mono3) (.wait 6 (.fix s14 (V.tuple [vi (pz 5 4 r s), vb true]) .nil))
  (show (V.tuple [vi (pz 5 4 r s), vb (roB 5 4 r s)] = V.tuple [vi (pz 5 4 r s), vb true] ∧ vi (Int.ofNat 20) = vi 20) from
  ⟨(congrArg V.tuple (consE rfl (consE (cb o) rfl))), (by rfl)⟩)
  (by kernel_rfl) Y K hK
theorem m30_4_4 (Y : Ys Prop) (r s : Int) (o : roB 5 4 r s = true) (K : V → Mem → Prop) (hK : ∀ mm, K (.int .i64 20) mm) :
   body1 pA (callD pA tb0 la3 5) Y c30 [geo 5 4 r, .int .i64 s, ag false false true false] ⟨0, .leaf⟩ K :=
  walk_of_vc (mono3) (.wait 6 (.fix s14 (V.tuple [vi (pz 5 4 r s), vb true]) .nil))
  (show (V.tuple [vi (pz 5 4 r s), vb (roB 5 4 r s)] = V.tuple [vi (pz 5 4 r s), vb true] ∧ vi (Int.ofNat 20) = vi 20) from
  ⟨(congrArg V.tuple (consE rfl (consE (cb o) rfl))), (by rfl)⟩)
  (by kernel_rfl) Y K hK
theorem m30_4_5 (Y : Ys Prop) (r s : Int) (o : roB 5 4 r s = true) (K : V → Mem → Prop) (hK : ∀ mm, K (.int .i64 20) mm) :
   body1 pA (callD pA tb0 la3 5) Y c30 [geo 5 4 r, .int .i64 s, ag true false true false] ⟨0, .leaf⟩ K :=
  walk_of_vc (mono3) (.wait 6 (.fix s14 (V.tuple [vi (pz 5 4 r s), vb true]) .nil))
  (show (V.tuple [vi (pz 5 4 r s), vb (roB 5 4 r s)] = V.tuple [vi (pz 5 4 r s), vb true] ∧ vi (Int.ofNat 20) = vi 20) from
  ⟨(congrArg V.tuple (consE rfl (consE (cb o) rfl))), (by rfl)⟩)
  (by kernel_rfl) Y K hK
theorem m30_4_6 (Y : Ys Prop) (r s : Int) (o : roB 5 4 r s = true) (K : V → Mem → Prop) (hK : ∀ mm, K (.int .i64 20) mm) :
   body1 pA (callD pA tb0 la3 5) Y c30 [geo 5 4 r, .int .i64 s, ag false true true false] ⟨0, .leaf⟩ K :=
  walk_of_vc (mono3) (.wait 6 (.fix s14 (V.tuple [vi (pz 5 4 r s), vb true]) .nil))
  (show (V.tuple [vi (pz 5 4 r s), vb (roB 5 4 r s)] = V.tuple [vi (pz 5 4 r s), vb true] ∧ vi (Int.ofNat 20) = vi 20) from
  ⟨(congrArg V.tuple (consE rfl (consE (cb o) rfl))), (by rfl)⟩)
  (by kernel_rfl) Y K hK
theorem m30_4_7 (Y : Ys Prop) (r s : Int) (o : roB 5 4 r s = true) (K : V → Mem → Prop) (hK : ∀ mm, K (.int .i64 0) mm) :
   body1 pA (callD pA tb0 la3 5) Y c30 [geo 5 4 r, .int .i64 s, ag true true true false] ⟨0, .leaf⟩ K :=
  walk_of_vc (mono3) (.wait 6 (.fix s14 (V.tuple [vi (pz 5 4 r s), vb true]) .nil))
  (show (V.tuple [vi (pz 5 4 r s), vb (roB 5 4 r s)] = V.tuple [vi (pz 5 4 r s), vb true] ∧ vi (Int.ofNat 0) = vi 0) from
  ⟨(congrArg V.tuple (consE rfl (consE (cb o) rfl))), (by rfl)⟩)
  (by kernel_rfl) Y K hK
theorem m30_4_8 (Y : Ys Prop) (r s : Int) (o : roB 5 4 r s = true) (K : V → Mem → Prop) (hK : ∀ mm, K (.int .i64 20) mm) :
   body1 pA (callD pA tb0 la3 5) Y c30 [geo 5 4 r, .int .i64 s, ag false false false true] ⟨0, .leaf⟩ K :=
  walk_of_vc (mono3) (.wait 6 (.fix s14 (V.tuple [vi (pz 5 4 r s), vb true]) .nil))
  (show (V.tuple [vi (pz 5 4 r s), vb (roB 5 4 r s)] = V.tuple [vi (pz 5 4 r s), vb true] ∧ vi (Int.ofNat 20) = vi 20) from
  ⟨(congrArg V.tuple (consE rfl (consE (cb o) rfl))), (by rfl)⟩)
  (by kernel_rfl) Y K hK
theorem m30_4_9 (Y : Ys Prop) (r s : Int) (o : roB 5 4 r s = true) (K : V → Mem → Prop) (hK : ∀ mm, K (.int .i64 20) mm) :
   body1 pA (callD pA tb0 la3 5) Y c30 [geo 5 4 r, .int .i64 s, ag true false false true] ⟨0, .leaf⟩ K :=
  walk_of_vc (mono3) (.wait 6 (.fix s14 (V.tuple [vi (pz 5 4 r s), vb true]) .nil))
  (show (V.tuple [vi (pz 5 4 r s), vb (roB 5 4 r s)] = V.tuple [vi (pz 5 4 r s), vb true] ∧ vi (Int.ofNat 20) = vi 20) from
  ⟨(congrArg V.tuple (consE rfl (consE (cb o) rfl))), (by rfl)⟩)
  (by kernel_rfl) Y K hK
theorem m30_4_10 (Y : Ys Prop) (r s : Int) (o : roB 5 4 r s = true) (K : V → Mem → Prop) (hK : ∀ mm, K (.int .i64 20) mm) :
   body1 pA (callD pA tb0 la3 5) Y c30 [geo 5 4 r, .int .i64 s, ag false true false true] ⟨0, .leaf⟩ K :=
  walk_of_vc (mono3) (.wait 6 (.fix s14 (V.tuple [vi (pz 5 4 r s), vb true]) .nil))
  (show (V.tuple [vi (pz 5 4 r s), vb (roB 5 4 r s)] = V.tuple [vi (pz 5 4 r s), vb true] ∧ vi (Int.ofNat 20) = vi 20) from
  ⟨(congrArg V.tuple (consE rfl (consE (cb o) rfl))), (by rfl)⟩)
  (by kernel_rfl) Y K hK
theorem m30_4_11 (Y : Ys Prop) (r s : Int) (o : roB 5 4 r s = true) (K : V → Mem → Prop) (hK : ∀ mm, K (.int .i64 0) mm) :
   body1 pA (callD pA tb0 la3 5) Y c30 [geo 5 4 r, .int .i64 s, ag true true false true] ⟨0, .leaf⟩ K :=
  walk_of_vc (mono3) (.wait 6 (.fix s14 (V.tuple [vi (pz 5 4 r s), vb true]) .nil))
  (show (V.tuple [vi (pz 5 4 r s), vb (roB 5 4 r s)] = V.tuple [vi (pz 5 4 r s), vb true] ∧ vi (Int.ofNat 0) = vi 0) from
  ⟨(congrArg V.tuple (consE rfl (consE (cb o) rfl))), (by rfl)⟩)
  (by kernel_rfl) Y K hK
theorem m30_4_12 (Y : Ys Prop) (r s : Int) (o : roB 5 4 r s = true) (K : V → Mem → Prop) (hK : ∀ mm, K (.int .i64 20) mm) :
   body1 pA (callD pA tb0 la3 5) Y c30 [geo 5 4 r, .int .i64 s, ag false false true true] ⟨0, .leaf⟩ K :=
  walk_of_vc (mono3) (.wait 6 (.fix s14 (V.tuple [vi (pz 5 4 r s), vb true]) .nil))
  (show (V.tuple [vi (pz 5 4 r s), vb (roB 5 4 r s)] = V.tuple [vi (pz 5 4 r s), vb true] ∧ vi (Int.ofNat 20) = vi 20) from
  ⟨(congrArg V.tuple (consE rfl (consE (cb o) rfl))), (by rfl)⟩)
  (by kernel_rfl) Y K hK
theorem m30_4_13 (Y : Ys Prop) (r s : Int) (o : roB 5 4 r s = true) (K : V → Mem → Prop) (hK : ∀ mm, K (.int .i64 0) mm) :
   body1 pA (callD pA tb0 la3 5) Y c30 [geo 5 4 r, .int .i64 s, ag true false true true] ⟨0, .leaf⟩ K :=
  walk_of_vc (mono3) (.wait 6 (.fix s14 (V.tuple [vi (pz 5 4 r s), vb true]) .nil))
  (show (V.tuple [vi (pz 5 4 r s), vb (roB 5 4 r s)] = V.tuple [vi (pz 5 4 r s), vb true] ∧ vi (Int.ofNat 0) = vi 0) from
  ⟨(congrArg V.tuple (consE rfl (consE (cb o) rfl))), (by rfl)⟩)
  (by kernel_rfl) Y K hK
theorem m30_4_14 (Y : Ys Prop) (r s : Int) (o : roB 5 4 r s = true) (K : V → Mem → Prop) (hK : ∀ mm, K (.int .i64 0) mm) :
   body1 pA (callD pA tb0 la3 5) Y c30 [geo 5 4 r, .int .i64 s, ag false true true true] ⟨0, .leaf⟩ K :=
  walk_of_vc (mono3) (.wait 6 (.fix s14 (V.tuple [vi (pz 5 4 r s), vb true]) .nil))
  (show (V.tuple [vi (pz 5 4 r s), vb (roB 5 4 r s)] = V.tuple [vi (pz 5 4 r s), vb true] ∧ vi (Int.ofNat 0) = vi 0) from
  ⟨(congrArg V.tuple (consE rfl (consE (cb o) rfl))), (by rfl)⟩)
  (by kernel_rfl) Y K hK
theorem m30_4_15 (Y : Ys Prop) (r s : Int) (o : roB 5 4 r s = true) (K : V → Mem → Prop) (hK : ∀ mm, K (.int .i64 0) mm) :
   body1 pA (callD pA tb0 la3 5) Y c30 [geo 5 4 r, .int .i64 s, ag true true true true] ⟨0, .leaf⟩ K :=
  walk_of_vc (mono3) (.wait 6 (.fix s14 (V.tuple [vi (pz 5 4 r s), vb true]) .nil))
  (show (V.tuple [vi (pz 5 4 r s), vb (roB 5 4 r s)] = V.tuple [vi (pz 5 4 r s), vb true] ∧ vi (Int.ofNat 0) = vi 0) from
  ⟨(congrArg V.tuple (consE rfl (consE (cb o) rfl))), (by rfl)⟩)
  (by kernel_rfl) Y K hK
theorem r19_e_o0 (e : Int) (he : e ≠ (0 : Int)) : ¬e = (0 : Int) := by omega
theorem r19_e (Y : Ys Prop) (l m r s x : Int) (b0 b1 b2 b3 : Bool) (e : Int) (he : e ≠ 0) (h : mayE l m r s b0 b1 b2 b3 = e) (K : V → Mem → Prop) (hK : ∀ mm, K (.tuple [.nilslice, .int .i64 e]) mm) :
   body1 pA (callD pA tb0 la30 5) Y c19 [geo l m r, .int .i64 s, ag b0 b1 b2 b3, .int .i64 x] ⟨0, .leaf⟩ K :=
  walk_of_vc (mono30) (.wait 8 (.fix s16 (vi e) (.wait 3 (.fix s18 (vb true) .nil))))
  (show (vi (mayE l m r s b0 b1 b2 b3) = vi e ∧ vb (nB (eqI e 0)) = vb true ∧ rR (V.tuple [V.nilslice, vi e])) from
  ⟨(ci h), cb (congrArg Bool.not (eqF rfl rfl (r19_e_o0 e he))), (by rfl)⟩)
  (by kernel_rfl) Y K hK
theorem r19_lo_o0 (x : Int) (u : x < (0 : Int)) : x < (0 : Int) := by omega
theorem r19_lo (Y : Ys Prop) (l m r s x : Int) (b0 b1 b2 b3 : Bool) (h : mayE l m r s b0 b1 b2 b3 = 0) (u : x < 0) (K : V → Mem → Prop) (hK : ∀ mm, K (.tuple [.nilslice, .int .i64 1]) mm) :
   body1 pA (callD pA tb0 la30 5) Y c19 [geo l m r, .int .i64 s, ag b0 b1 b2 b3, .int .i64 x] ⟨0, .leaf⟩ K :=
  walk_of_vc (mono30) (.wait 8 (.fix s16 (vi 0) (.wait 6 (.fix s21 (vb true) .nil))))
  (show (vi (mayE l m r s b0 b1 b2 b3) = vi 0 ∧ vb (ltI x 0) = vb true ∧ V.tuple [V.nilslice, vi (Int.ofNat 1)] = V.tuple [V.nilslice, vi 1]) from
  ⟨(ci h), (cb (ltT rfl rfl (r19_lo_o0 x u))), (by rfl)⟩)
  (by kernel_rfl) Y K hK
theorem r19_hi_o0 (x : Int) (u : (0 : Int) ≤ x) : ¬x < (0 : Int) := by omega
theorem r19_hi_o1 (m : Int) (x : Int) (u : (0 : Int) ≤ x) (u2 : m ≤ x) : ¬x < m := by omega
theorem r19_hi (Y : Ys Prop) (l m r s x : Int) (b0 b1 b2 b3 : Bool) (h : mayE l m r s b0 b1 b2 b3 = 0) (u : 0 ≤ x) (u2 : m ≤ x) (K : V → Mem → Prop) (hK : ∀ mm, K (.tuple [.nilslice, .int .i64 1]) mm) :
   body1 pA (callD pA tb0 la30 5) Y c19 [geo l m r, .int .i64 s, ag b0 b1 b2 b3, .int .i64 x] ⟨0, .leaf⟩ K :=
  walk_of_vc (mono30) (.wait 8 (.fix s16 (vi 0) (.wait 6 (.fix s21 (vb false) (.wait 5 (.fix s26 (vb true) .nil))))))
  (show (vi (mayE l m r s b0 b1 b2 b3) = vi 0 ∧ vb (ltI x 0) = vb false ∧ vb (nB (ltI x m)) = vb true ∧ V.tuple [V.nilslice, vi (Int.ofNat 1)] = V.tuple [V.nilslice, vi 1]) from
  ⟨(ci h), (cb (ltF rfl rfl (r19_hi_o0 x u))), (cb (congrArg Bool.not (ltF rfl rfl (r19_hi_o1 m x u u2)))), (by rfl)⟩)
  (by kernel_rfl) Y K hK
theorem r19_2_0y (Y : Ys Prop) (r s : Int) (b1 : Bool) (b2 : Bool) (b3 : Bool) (h : mayE 1 2 r s true b1 b2 b3 = 0) :
   body1 pA (callD pA tb0 la30 5) Y c19 [geo 1 2 r, .int .i64 s, ag true b1 b2 b3, .int .i64 0] ⟨0, .leaf⟩ (endL (Lay.new (Hd.slice 1 1) (some [.int .i64 0]) (AObj.cells [.int .i64 0] false))) :=
  walkL_of_vc (mono30) (.wait 8 (.fix s16 (vi 0) .nil))
  (show (vi (mayE 1 2 r s true b1 b2 b3) = vi 0 ∧ V.tuple [V.slice 2 0 1 1 1, vi (Int.ofNat 0)] = layV (Hd.slice 1 1) (some [vi 0]) 2 ∧ some (oC [vi (Int.ofNat 0)] false) = some (oC [vi 0] false)) from
  ⟨(ci h), (by exact ⟨rfl, rfl⟩)⟩)
  (by kernel_rfl) Y
theorem r19_2_0n (Y : Ys Prop) (r s : Int) (b1 : Bool) (b2 : Bool) (b3 : Bool) (h : mayE 1 2 r s false b1 b2 b3 = 0) :
   body1 pA (callD pA tb0 la30 5) Y c19 [geo 1 2 r, .int .i64 s, ag false b1 b2 b3, .int .i64 0] ⟨0, .leaf⟩ (endL (Lay.new (Hd.slice 1 1) (some [.int .i64 0]) (AObj.cells [.int .i64 1] false))) :=
  walkL_of_vc (mono30) (.wait 8 (.fix s16 (vi 0) .nil))
  (show (vi (mayE 1 2 r s false b1 b2 b3) = vi 0 ∧ V.tuple [V.slice 3 0 1 1 1, vi (Int.ofNat 0)] = layV (Hd.slice 1 1) (some [vi 0]) 3 ∧ some (oC [vi (Int.ofNat 1)] false) = some (oC [vi 1] false)) from
  ⟨(ci h), (by exact ⟨rfl, rfl⟩)⟩)
  (by kernel_rfl) Y
theorem r19_2_1y (Y : Ys Prop) (r s : Int) (b0 : Bool) (b2 : Bool) (b3 : Bool) (h : mayE 1 2 r s b0 true b2 b3 = 0) :
   body1 pA (callD pA tb0 la30 5) Y c19 [geo 1 2 r, .int .i64 s, ag b0 true b2 b3, .int .i64 1] ⟨0, .leaf⟩ (endL (Lay.new (Hd.slice 1 1) (some [.int .i64 0]) (AObj.cells [.int .i64 1] false))) :=
  walkL_of_vc (mono30) (.wait 8 (.fix s16 (vi 0) .nil))
  (show (vi (mayE 1 2 r s b0 true b2 b3) = vi 0 ∧ V.tuple [V.slice 2 0 1 1 1, vi (Int.ofNat 0)] = layV (Hd.slice 1 1) (some [vi 0]) 2 ∧ some (oC [vi (Int.ofNat 1)] false) = some (oC [vi 1] false)) from
  ⟨(ci h), (by exact ⟨rfl, rfl⟩)⟩)
  (by kernel_rfl) Y
theorem r19_2_1n (Y : Ys Prop) (r s : Int) (b0 : Bool) (b2 : Bool) (b3 : Bool) (h : mayE 1 2 r s b0 false b2 b3 = 0) :
   body1 pA (callD pA tb0 la30 5) Y c19 [geo 1 2 r, .int .i64 s, ag b0 false b2 b3, .int .i64 1] ⟨0, .leaf⟩ (endL (Lay.new (Hd.slice 1 1) (some [.int .i64 0]) (AObj.cells [.int .i64 0] false))) :=
  walkL_of_vc (mono30) (.wait 8 (.fix s16 (vi 0) .nil))
  (show (vi (mayE 1 2 r s b0 false b2 b3) = vi 0 ∧ V.tuple [V.slice 3 0 1 1 1, vi (Int.ofNat 0)] = layV (Hd.slice 1 1) (some [vi 0]) 3 ∧ some (oC [vi (Int.ofNat 0)] false) = some (oC [vi 0] false)) from
  ⟨(ci h), (by exact ⟨rfl, rfl⟩)⟩)
  (by kernel_rfl) Y
theorem r19_3_0y (Y : Ys Prop) (r s : Int) (b1 : Bool) (b2 : Bool) (b3 : Bool) (h : mayE 5 3 r s true b1 b2 b3 = 0) :
   body1 pA (callD pA tb0 la30 5) Y c19 [geo 5 3 r, .int .i64 s, ag true b1 b2 b3, .int .i64 0] ⟨0, .leaf⟩ (endL (Lay.new (Hd.slice 1 1) (some [.int .i64 0]) (AObj.cells [.int .i64 0] false))) :=
  walkL_of_vc (mono30) (.wait 8 (.fix s16 (vi 0) .nil))
  (show (vi (mayE 5 3 r s true b1 b2 b3) = vi 0 ∧ V.tuple [V.slice 2 0 1 1 1, vi (Int.ofNat 0)] = layV (Hd.slice 1 1) (some [vi 0]) 2 ∧ some (oC [vi (Int.ofNat 0)] false) = some (oC [vi 0] false)) from
  ⟨(ci h), (by exact ⟨rfl, rfl⟩)⟩)
  (by kernel_rfl) Y
theorem r19_3_0n (Y : Ys Prop) (r s : Int) (b1 : Bool) (b2 : Bool) (b3 : Bool) (h : mayE 5 3 r s false b1 b2 b3 = 0) :
   body1 pA (callD pA tb0 la30 5) Y c19 [geo 5 3 r, .int .i64 s, ag false b1 b2 b3, .int .i64 0] ⟨0, .leaf⟩ (endL (Lay.new (Hd.slice 2 1) (some [.int .i64 0]) (AObj.cells [.int .i64 1, .int .i64 2] false))) :=
  walkL_of_vc (mono30) (.wait 8 (.fix s16 (vi 0) .nil))
  (show (vi (mayE 5 3 r s false b1 b2 b3) = vi 0 ∧ V.tuple [V.slice 5 0 2 2 1, vi (Int.ofNat 0)] = layV (Hd.slice 2 1) (some [vi 0]) 5 ∧ some (oC [vi (Int.ofNat 1), vi (Int.ofNat 2)] false) = some (oC [vi 1, vi 2] false)) from
  ⟨(ci h), (by exact ⟨rfl, rfl⟩)⟩)
  (by kernel_rfl) Y
theorem r19_3_1y (Y : Ys Prop) (r s : Int) (b0 : Bool) (b2 : Bool) (b3 : Bool) (h : mayE 5 3 r s b0 true b2 b3 = 0) :
   body1 pA (callD pA tb0 la30 5) Y c19 [geo 5 3 r, .int .i64 s, ag b0 true b2 b3, .int .i64 1] ⟨0, .leaf⟩ (endL (Lay.new (Hd.slice 1 1) (some [.int .i64 0]) (AObj.cells [.int .i64 1] false))) :=
  walkL_of_vc (mono30) (.wait 8 (.fix s16 (vi 0) .nil))
  (show (vi (mayE 5 3 r s b0 true b2 b3) = vi 0 ∧ V.tuple [V.slice 2 0 1 1 1, vi (Int.ofNat 0)] = layV (Hd.slice 1 1) (some [vi 0]) 2 ∧ some (oC [vi (Int.ofNat 1)] false) = some (oC [vi 1] false)) from
  ⟨(ci h), (by exact ⟨rfl, rfl⟩)⟩)
  (by kernel_rfl) Y
theorem r19_3_1n (Y : Ys Prop) (r s : Int) (b0 : Bool) (b2 : Bool) (b3 : Bool) (h : mayE 5 3 r s b0 false b2 b3 = 0) :
   body1 pA (callD pA tb0 la30 5) Y c19 [geo 5 3 r, .int .i64 s, ag b0 false b2 b3, .int .i64 1] ⟨0, .leaf⟩ (endL (Lay.new (Hd.slice 2 1) (some [.int .i64 0]) (AObj.cells [.int .i64 0, .int .i64 2] false))) :=
  walkL_of_vc (mono30) (.wait 8 (.fix s16 (vi 0) .nil))
  (show (vi (mayE 5 3 r s b0 false b2 b3) = vi 0 ∧ V.tuple [V.slice 5 0 2 2 1, vi (Int.ofNat 0)] = layV (Hd.slice 2 1) (some [vi 0]) 5 ∧ some (oC [vi (Int.ofNat 0), vi (Int.ofNat 2)] false) = some (oC [vi 0, vi 2] false)) from
  ⟨(ci h), (by exact ⟨rfl, rfl⟩)⟩)
  (by kernel_rfl) Y
theorem r19_3_2y (Y : Ys Prop) (r s : Int) (b0 : Bool) (b1 : Bool) (b3 : Bool) (h : mayE 5 3 r s b0 b1 true b3 = 0) :
   body1 pA (callD pA tb0 la30 5) Y c19 [geo 5 3 r, .int .i64 s, ag b0 b1 true b3, .int .i64 2] ⟨0, .leaf⟩ (endL (Lay.new (Hd.slice 1 1) (some [.int .i64 0]) (AObj.cells [.int .i64 2] false))) :=
  walkL_of_vc (mono30) (.wait 8 (.fix s16 (vi 0) .nil))
  (show (vi (mayE 5 3 r s b0 b1 true b3) = vi 0 ∧ V.tuple [V.slice 2 0 1 1 1, vi (Int.ofNat 0)] = layV (Hd.slice 1 1) (some [vi 0]) 2 ∧ some (oC [vi (Int.ofNat 2)] false) = some (oC [vi 2] false)) from
  ⟨(ci h), (by exact ⟨rfl, rfl⟩)⟩)
  (by kernel_rfl) Y
theorem r19_3_2n (Y : Ys Prop) (r s : Int) (b0 : Bool) (b1 : Bool) (b3 : Bool) (h : mayE 5 3 r s b0 b1 false b3 = 0) :
   body1 pA (callD pA tb0 la30 5) Y c19 [geo 5 3 r, .int .i64 s, ag b0 b1 false b3, .int .i64 2] ⟨0, .leaf⟩ (endL (Lay.new (Hd.slice 2 1) (some [.int .i64 0]) (AObj.cells [.int .i64 0, .int .i64 1] false))) :=
  walkL_of_vc (mono30) (.wait 8 (.fix s16 (vi 0) .nil))
  (show (vi (mayE 5 3 r s b0 b1 false b3) = vi 0 ∧ V.tuple [V.slice 5 0 2 2 1, vi (Int.ofNat 0)] = layV (Hd.slice 2 1) (some [vi 0]) 5 ∧ some (oC [vi (Int.ofNat 0), vi (Int.ofNat 1)] false) = some (oC [vi 0, vi 1] false)) from
  ⟨(ci h), (by exact ⟨rfl, rfl⟩)⟩)
  (by kernel_rfl) Y
theorem r19_4_0y (Y : Ys Prop) (r s : Int) (b1 : Bool) (b2 : Bool) (b3 : Bool) (h : mayE 5 4 r s true b1 b2 b3 = 0) :
   body1 pA (callD pA tb0 la30 5) Y c19 [geo 5 4 r, .int .i64 s, ag true b1 b2 b3, .int .i64 0] ⟨0, .leaf⟩ (endL (Lay.new (Hd.slice 1 1) (some [.int .i64 0]) (AObj.cells [.int .i64 0] false))) :=
  walkL_of_vc (mono30) (.wait 8 (.fix s16 (vi 0) .nil))
  (show (vi (mayE 5 4 r s true b1 b2 b3) = vi 0 ∧ V.tuple [V.slice 2 0 1 1 1, vi (Int.ofNat 0)] = layV (Hd.slice 1 1) (some [vi 0]) 2 ∧ some (oC [vi (Int.ofNat 0)] false) = some (oC [vi 0] false)) from
  ⟨(ci h), (by exact ⟨rfl, rfl⟩)⟩)
  (by kernel_rfl) Y
theorem r19_4_0n (Y : Ys Prop) (r s : Int) (b1 : Bool) (b2 : Bool) (b3 : Bool) (h : mayE 5 4 r s false b1 b2 b3 = 0) :
   body1 pA (callD pA tb0 la30 5) Y c19 [geo 5 4 r, .int .i64 s, ag false b1 b2 b3, .int .i64 0] ⟨0, .leaf⟩ (endL (Lay.new (Hd.slice 3 1) (some [.int .i64 0]) (AObj.cells [.int .i64 1, .int .i64 2, .int .i64 3] false))) :=
  walkL_of_vc (mono30) (.wait 8 (.fix s16 (vi 0) .nil))
  (show (vi (mayE 5 4 r s false b1 b2 b3) = vi 0 ∧ V.tuple [V.slice 7 0 3 3 1, vi (Int.ofNat 0)] = layV (Hd.slice 3 1) (some [vi 0]) 7 ∧ some (oC [vi (Int.ofNat 1), vi (Int.ofNat 2), vi (Int.ofNat 3)] false) = some (oC [vi 1, vi 2, vi 3] false)) from
  ⟨(ci h), (by exact ⟨rfl, rfl⟩)⟩)
  (by kernel_rfl) Y
theorem r19_4_1y (Y : Ys Prop) (r s : Int) (b0 : Bool) (b2 : Bool) (b3 : Bool) (h : mayE 5 4 r s b0 true b2 b3 = 0) :
   body1 pA (callD pA tb0 la30 5) Y c19 [geo 5 4 r, .int .i64 s, ag b0 true b2 b3, .int .i64 1] ⟨0, .leaf⟩ (endL (Lay.new (Hd.slice 1 1) (some [.int .i64 0]) (AObj.cells [.int .i64 1] false))) :=
  walkL_of_vc (mono30) (.wait 8 (.fix s16 (vi 0) .nil))
  (show (vi (mayE 5 4 r s b0 true b2 b3) = vi 0 ∧ V.tuple [V.slice 2 0 1 1 1, vi (Int.ofNat 0)] = layV (Hd.slice 1 1) (some [vi 0]) 2 ∧ some (oC [vi (Int.ofNat 1)] false) = some (oC [vi 1] false)) from
  ⟨(ci h), (by exact ⟨rfl, rfl⟩)⟩)
  (by kernel_rfl) Y
theorem r19_4_1n (Y : Ys Prop) (r s : Int) (b0 : Bool) (b2 : Bool) (b3 : Bool) (h : mayE 5 4 r s b0 false b2 b3 = 0) :
   body1 pA (callD pA tb0 la30 5) Y c19 [geo 5 4 r, .int .i64 s, ag b0 false b2 b3, .int .i64 1] ⟨0, .leaf⟩ (endL (Lay.new (Hd.slice 3 1) (some [.int .i64 0]) (AObj.cells [.int .i64 0, .int .i64 2, .int .i64 3] false))) :=
  walkL_of_vc (mono30) (.wait 8 (.fix s16 (vi 0) .nil))
  (show (vi (mayE 5 4 r s b0 false b2 b3) = vi 0 ∧ V.tuple [V.slice 7 0 3 3 1, vi (Int.ofNat 0)] = layV (Hd.slice 3 1) (some [vi 0]) 7 ∧ some (oC [vi (Int.ofNat 0), vi (Int.ofNat 2), vi (Int.ofNat 3)] false) = some (oC [vi 0, vi 2, vi 3] false)) from
  ⟨(ci h), (by exact ⟨rfl, rfl⟩)⟩)
  (by kernel_rfl) Y
theorem r19_4_2y (Y : Ys Prop) (r s : Int) (b0 : Bool) (b1 : Bool) (b3 : Bool) (h : mayE 5 4 r s b0 b1 true b3 = 0) :
   body1 pA (callD pA tb0 la30 5) Y c19 [geo 5 4 r, .int .i64 s, ag b0 b1 true b3, .int .i64 2] ⟨0, .leaf⟩ (endL (Lay.new (Hd.slice 1 1) (some [.int .i64 0]) (AObj.cells [.int .i64 2] false))) :=
  walkL_of_vc (mono30) (.wait 8 (.fix s16 (vi 0) .nil))
  (show (vi (mayE 5 4 r s b0 b1 true b3) = vi 0 ∧ V.tuple [V.slice 2 0 1 1 1, vi (Int.ofNat 0)] = layV (Hd.slice 1 1) (some [vi 0]) 2 ∧ some (oC [vi (Int.ofNat 2)] false) = some (oC [vi 2] false)) from
  ⟨(ci h), (by exact ⟨rfl, rfl⟩)⟩)
  (by kernel_rfl) Y
theorem r19_4_2n (Y : Ys Prop) (r s : Int) (b0 : Bool) (b1 : Bool) (b3 : Bool) (h : mayE 5 4 r s b0 b1 false b3 = 0) :
   body1 pA (callD pA tb0 la30 5) Y c19 [geo 5 4 r, .int .i64 s, ag b0 b1 false b3, .int .i64 2] ⟨0, .leaf⟩ (endL (Lay.new (Hd.slice 3 1) (some [.int .i64 0]) (AObj.cells [.int .i64 0, .int .i64 1, .int .i64 3] false))) :=
  walkL_of_vc (mono30) (.wait 8 (.fix s16 (vi 0) .nil))
  (show (vi (mayE 5 4 r s b0 b1 false b3) = vi 0 ∧ V.tuple [V.slice 7 0 3 3 1, vi (Int.ofNat 0)] = layV (Hd.slice 3 1) (some [vi 0]) 7 ∧ some (oC [vi (Int.ofNat 0), vi (Int.ofNat 1), vi (Int.ofNat 3)] false) = some (oC [vi 0, vi 1, vi 3] false)) from
  ⟨(ci h), (by exact ⟨rfl, rfl⟩)⟩)
  (by kernel_rfl) Y
theorem r19_4_3y (Y : Ys Prop) (r s : Int) (b0 : Bool) (b1 : Bool) (b2 : Bool) (h : mayE 5 4 r s b0 b1 b2 true = 0) :
   body1 pA (callD pA tb0 la30 5) Y c19 [geo 5 4 r, .int .i64 s, ag b0 b1 b2 true, .int .i64 3] ⟨0, .leaf⟩ (endL (Lay.new (Hd.slice 1 1) (some [.int .i64 0]) (AObj.cells [.int .i64 3] false))) :=
  walkL_of_vc (mono30) (.wait 8 (.fix s16 (vi 0) .nil))
  (show (vi (mayE 5 4 r s b0 b1 b2 true) = vi 0 ∧ V.tuple [V.slice 2 0 1 1 1, vi (Int.ofNat 0)] = layV (Hd.slice 1 1) (some [vi 0]) 2 ∧ some (oC [vi (Int.ofNat 3)] false) = some (oC [vi 3] false)) from
  ⟨(ci h), (by exact ⟨rfl, rfl⟩)⟩)
  (by kernel_rfl) Y
theorem r19_4_3n (Y : Ys Prop) (r s : Int) (b0 : Bool) (b1 : Bool) (b2 : Bool) (h : mayE 5 4 r s b0 b1 b2 false = 0) :
   body1 pA (callD pA tb0 la30 5) Y c19 [geo 5 4 r, .int .i64 s, ag b0 b1 b2 false, .int .i64 3] ⟨0, .leaf⟩ (endL (Lay.new (Hd.slice 3 1) (some [.int .i64 0]) (AObj.cells [.int .i64 0, .int .i64 1, .int .i64 2] false))) :=
  walkL_of_vc (mono30) (.wait 8 (.fix s16 (vi 0) .nil))
  (show (vi (mayE 5 4 r s b0 b1 b2 false) = vi 0 ∧ V.tuple [V.slice 7 0 3 3 1, vi (Int.ofNat 0)] = layV (Hd.slice 3 1) (some [vi 0]) 7 ∧ some (oC [vi (Int.ofNat 0), vi (Int.ofNat 1), vi (Int.ofNat 2)] false) = some (oC [vi 0, vi 1, vi 2] false)) from
  ⟨(ci h), (by exact ⟨rfl, rfl⟩)⟩)
  (by kernel_rfl) Y
noncomputable abbrev v21_e_Qa (l m r s x : Int) (b0 b1 b2 b3 : Bool) (L : LL) (c : Nat) (ro : Bool) (e : Int) : Con := ⟨[geo l m r, .int .i64 s, ag b0 b1 b2 b3, .int .i64 x, .map 0], [.map (mV L) c ro], .tuple [.str [], .int .i64 e], [.map (mV L) c ro], []⟩
theorem v21_e (Y : Ys Prop) (l m r s x : Int) (b0 b1 b2 b3 : Bool) (L : LL) (c : Nat) (ro : Bool) (e : Int) (he : e ≠ 0) (h : S19s [geo l m r, .int .i64 s, ag b0 b1 b2 b3, .int .i64 x] = some (Lay.plain (.tuple [.nilslice, .int .i64 e]))) :
   body1 pA (callD pA tbV la21 6) Y c21 (v21_e_Qa l m r s x b0 b1 b2 b3 L c ro e).args (memO (v21_e_Qa l m r s x b0 b1 b2 b3 L c ro e).pre) (endC (v21_e_Qa l m r s x b0 b1 b2 b3 L c ro e)) :=
  walkC_of_vc (C := (v21_e_Qa l m r s x b0 b1 b2 b3 L c ro e)) (mono21) (.wait 8 (.lay (Lay.plain (V.tuple [V.nilslice, vi e])) (.wait 7 (.fix s23 (vb true) .nil))))
  (show ((∀ (m' : Mem) (K' : V → Mem → Prop), la21 (.func (.func 19) [] []) ([geo l m r, vi s, ag b0 b1 b2 b3, vi x]) m' K' = Lay.go (Lay.plain (V.tuple [V.nilslice, vi e])) m' K') ∧ (vb (nB (eqI e 0)) = vb true ∧ rR (V.tuple [V.str [], vi e]) ∧ (rR (some (oM (mV L) c ro)) ∧ True) ∧ True)) from
  ⟨fun m' K' => layE h, ⟨cb (congrArg Bool.not (eqF rfl rfl (r19_e_o0 e he))), (by rfl), ⟨(by rfl), trivial⟩, trivial⟩⟩)
  (by kernel_rfl) Y
noncomputable abbrev v21_1_ok_Qa (l m r s x : Int) (b0 b1 b2 b3 : Bool) (L : LL) (c : Nat) (ro : Bool) (X : List Nat) : Con := ⟨[geo l m r, .int .i64 s, ag b0 b1 b2 b3, .int .i64 x, .map 0], [.map (mV L) c ro], .tuple [.str X, .int .i64 0], [.map (mV L) c ro], []⟩
noncomputable abbrev v21_1_ok_Qb (g0 X : List Nat) : Con := { args := [V.slice 0 0 1 1 1], pre := [oC [V.str g0] false], ans := V.tuple [V.str X, vi 0], old := [oC [V.str g0] false], new := [] }
theorem v21_1_ok (Y : Ys Prop) (l m r s x : Int) (b0 b1 b2 b3 : Bool) (L : LL) (c : Nat) (ro : Bool) (x0 : Int) (h : S19s [geo l m r, .int .i64 s, ag b0 b1 b2 b3, .int .i64 x] = some (Lay.new (Hd.slice 1 1) (some [.int .i64 0]) (AObj.cells [.int .i64 x0] false))) (g0 X : List Nat) (q0 : lookV (.one .int) false (.str []) (.int .i64 x0) (mV L) = some (.str g0)) (z0 : List.length g0 = 64) (hX : S28 (v21_1_ok_Qb g0 X)) :
   body1 pA (callD pA tbV la21 6) Y c21 (v21_1_ok_Qa l m r s x b0 b1 b2 b3 L c ro X).args (memO (v21_1_ok_Qa l m r s x b0 b1 b2 b3 L c ro X).pre) (endC (v21_1_ok_Qa l m r s x b0 b1 b2 b3 L c ro X)) :=
  walkC_of_vc (C := (v21_1_ok_Qa l m r s x b0 b1 b2 b3 L c ro X)) (mono21) (.wait 8 (.lay (Lay.new (Hd.slice 1 1) (some [vi 0]) (oC [vi x0] false)) (.wait 38 (.res (V.str g0) (.wait 4 (.fix s4 (vi ↑64) (.wait 33 (.res (V.str g0) (.wait 9 (.con (v21_1_ok_Qb g0 X) [6] .nil))))))))))
  (show ((∀ (m' : Mem) (K' : V → Mem → Prop), la21 (.func (.func 19) [] []) ([geo l m r, vi s, ag b0 b1 b2 b3, vi x]) m' K' = Lay.go (Lay.new (Hd.slice 1 1) (some [vi 0]) (oC [vi x0] false)) m' K') ∧ (lookV (KT.one SK.int) false (V.str []) (vi x0) (mV L) = some (V.str g0) ∧ vi ↑(List.length g0) = vi ↑64 ∧ lookV (KT.one SK.int) false (V.str []) (vi x0) (mV L) = some (V.str g0) ∧ cA (v21_1_ok_Qb g0 X) [6] ([V.slice 6 0 1 1 1]) la21 28 ((oR [6] (oC [V.str g0] false) ∧ True) ∧ (V.tuple [V.str X, vi (Int.ofNat 0)] = V.tuple [V.str X, vi 0] ∧ (rR (some (oM (mV L) c ro)) ∧ True) ∧ True)))) from
  ⟨fun m' K' => layE h, ⟨q0, (ci (casN z0)), q0, (cI (hX)), (by kernel_rfl), rfl, rfl, ⟨rfl, trivial⟩, ⟨(by rfl), ⟨(by rfl), trivial⟩, trivial⟩⟩⟩)
  (by kernel_rfl) Y
noncomputable abbrev v21_1_b0_Qa (l m r s x : Int) (b0 b1 b2 b3 : Bool) (L : LL) (c : Nat) (ro : Bool) : Con := ⟨[geo l m r, .int .i64 s, ag b0 b1 b2 b3, .int .i64 x, .map 0], [.map (mV L) c ro], .tuple [.str [], .int .i64 1], [.map (mV L) c ro], []⟩
theorem v21_1_b0_o0 (g0 : List Nat) (z0 : List.length g0 ≠ (64 : Nat)) : ¬(↑(List.length g0) : Int) = (64 : Int) := by omega
theorem v21_1_b0 (Y : Ys Prop) (l m r s x : Int) (b0 b1 b2 b3 : Bool) (L : LL) (c : Nat) (ro : Bool) (x0 : Int) (h : S19s [geo l m r, .int .i64 s, ag b0 b1 b2 b3, .int .i64 x] = some (Lay.new (Hd.slice 1 1) (some [.int .i64 0]) (AObj.cells [.int .i64 x0] false))) (g0 : List Nat) (q0 : lookV (.one .int) false (.str []) (.int .i64 x0) (mV L) = some (.str g0)) (z0 : List.length g0 ≠ 64) :
   body1 pA (callD pA tbV la21 6) Y c21 (v21_1_b0_Qa l m r s x b0 b1 b2 b3 L c ro).args (memO (v21_1_b0_Qa l m r s x b0 b1 b2 b3 L c ro).pre) (endC (v21_1_b0_Qa l m r s x b0 b1 b2 b3 L c ro)) :=
  walkC_of_vc (C := (v21_1_b0_Qa l m r s x b0 b1 b2 b3 L c ro)) (mono21) (.wait 8 (.lay (Lay.new (Hd.slice 1 1) (some [vi 0]) (oC [vi x0] false)) (.wait 38 (.res (V.str g0) (.wait 5 (.fix s5 (vb false) .nil))))))
  (show ((∀ (m' : Mem) (K' : V → Mem → Prop), la21 (.func (.func 19) [] []) ([geo l m r, vi s, ag b0 b1 b2 b3, vi x]) m' K' = Lay.go (Lay.new (Hd.slice 1 1) (some [vi 0]) (oC [vi x0] false)) m' K') ∧ (lookV (KT.one SK.int) false (V.str []) (vi x0) (mV L) = some (V.str g0) ∧ vb (eqI (↑(List.length g0)) 64) = vb false ∧ V.tuple [V.str [], vi (Int.ofNat 1)] = V.tuple [V.str [], vi 1] ∧ (rR (some (oM (mV L) c ro)) ∧ True) ∧ True)) from
  ⟨fun m' K' => layE h, ⟨q0, (cb (eqF rfl rfl (v21_1_b0_o0 g0 z0))), (by rfl), ⟨(by rfl), trivial⟩, trivial⟩⟩)
  (by kernel_rfl) Y
noncomputable abbrev v21_2_ok_Qa (g0 g1 X : List Nat) : Con := { args := [V.slice 0 0 2 2 1], pre := [oC [V.str g0, V.str g1] false], ans := V.tuple [V.str X, vi 0], old := [oC [V.str g0, V.str g1] false], new := [] }
theorem v21_2_ok (Y : Ys Prop) (l m r s x : Int) (b0 b1 b2 b3 : Bool) (L : LL) (c : Nat) (ro : Bool) (x0 x1 : Int) (h : S19s [geo l m r, .int .i64 s, ag b0 b1 b2 b3, .int .i64 x] = some (Lay.new (Hd.slice 2 1) (some [.int .i64 0]) (AObj.cells [.int .i64 x0, .int .i64 x1] false))) (g0 g1 X : List Nat) (q0 : lookV (.one .int) false (.str []) (.int .i64 x0) (mV L) = some (.str g0)) (q1 : lookV (.one .int) false (.str []) (.int .i64 x1) (mV L) = some (.str g1)) (z0 : List.length g0 = 64) (z1 : List.length g1 = 64) (hX : S28 (v21_2_ok_Qa g0 g1 X)) :
   body1 pA (callD pA tbV la21 6) Y c21 (v21_1_ok_Qa l m r s x b0 b1 b2 b3 L c ro X).args (memO (v21_1_ok_Qa l m r s x b0 b1 b2 b3 L c ro X).pre) (endC (v21_1_ok_Qa l m r s x b0 b1 b2 b3 L c ro X)) :=
  walkC_of_vc (C := (v21_1_ok_Qa l m r s x b0 b1 b2 b3 L c ro X)) (mono21) (.wait 8 (.lay (Lay.new (Hd.slice 2 1) (some [vi 0]) (oC [vi x0, vi x1] false)) (.wait 38 (.res (V.str g0) (.wait 4 (.fix s4 (vi ↑64) (.wait 20 (.res (V.str g1) (.wait 4 (.fix s4 (vi ↑64) (.wait 33 (.res (V.str g0) (.wait 13 (.res (V.str g1) (.wait 9 (.con (v21_2_ok_Qa g0 g1 X) [8] .nil))))))))))))))))
  (show ((∀ (m' : Mem) (K' : V → Mem → Prop), la21 (.func (.func 19) [] []) ([geo l m r, vi s, ag b0 b1 b2 b3, vi x]) m' K' = Lay.go (Lay.new (Hd.slice 2 1) (some [vi 0]) (oC [vi x0, vi x1] false)) m' K') ∧ (lookV (KT.one SK.int) false (V.str []) (vi x0) (mV L) = some (V.str g0) ∧ vi ↑(List.length g0) = vi ↑64 ∧ lookV (KT.one SK.int) false (V.str []) (vi x1) (mV L) = some (V.str g1) ∧ vi ↑(List.length g1) = vi ↑64 ∧ lookV (KT.one SK.int) false (V.str []) (vi x0) (mV L) = some (V.str g0) ∧ lookV (KT.one SK.int) false (V.str []) (vi x1) (mV L) = some (V.str g1) ∧ cA (v21_2_ok_Qa g0 g1 X) [8] ([V.slice 8 0 2 2 1]) la21 28 ((oR [8] (oC [V.str g0, V.str g1] false) ∧ True) ∧ (V.tuple [V.str X, vi (Int.ofNat 0)] = V.tuple [V.str X, vi 0] ∧ (rR (some (oM (mV L) c ro)) ∧ True) ∧ True)))) from
  ⟨fun m' K' => layE h, ⟨q0, (ci (casN z0)), q1, (ci (casN z1)), q0, q1, (cI (hX)), (by kernel_rfl), rfl, rfl, ⟨rfl, trivial⟩, ⟨(by rfl), ⟨(by rfl), trivial⟩, trivial⟩⟩⟩)
  (by kernel_rfl) Y
theorem v21_2_b0 (Y : Ys Prop) (l m r s x : Int) (b0 b1 b2 b3 : Bool) (L : LL) (c : Nat) (ro : Bool) (x0 x1 : Int) (h : S19s [geo l m r, .int .i64 s, ag b0 b1 b2 b3, .int .i64 x] = some (Lay.new (Hd.slice 2 1) (some [.int .i64 0]) (AObj.cells [.int .i64 x0, .int .i64 x1] false))) (g0 g1 : List Nat) (q0 : lookV (.one .int) false (.str []) (.int .i64 x0) (mV L) = some (.str g0)) (q1 : lookV (.one .int) false (.str []) (.int .i64 x1) (mV L) = some (.str g1)) (z0 : List.length g0 ≠ 64) :
   body1 pA (callD pA tbV la21 6) Y c21 (v21_1_b0_Qa l m r s x b0 b1 b2 b3 L c ro).args (memO (v21_1_b0_Qa l m r s x b0 b1 b2 b3 L c ro).pre) (endC (v21_1_b0_Qa l m r s x b0 b1 b2 b3 L c ro)) :=
  walkC_of_vc (C := (v21_1_b0_Qa l m r s x b0 b1 b2 b3 L c ro)) (mono21) (.wait 8 (.lay (Lay.new (Hd.slice 2 1) (some [vi 0]) (oC [vi x0, vi x1] false)) (.wait 38 (.res (V.str g0) (.wait 5 (.fix s5 (vb false) .nil))))))
  (show ((∀ (m' : Mem) (K' : V → Mem → Prop), la21 (.func (.func 19) [] []) ([geo l m r, vi s, ag b0 b1 b2 b3, vi x]) m' K' = Lay.go (Lay.new (Hd.slice 2 1) (some [vi 0]) (oC [vi x0, vi x1] false)) m' K') ∧ (lookV (KT.one SK.int) false (V.str []) (vi x0) (mV L) = some (V.str g0) ∧ vb (eqI (↑(List.length g0)) 64) = vb false ∧ V.tuple [V.str [], vi (Int.ofNat 1)] = V.tuple [V.str [], vi 1] ∧ (rR (some (oM (mV L) c ro)) ∧ True) ∧ True)) from
  ⟨fun m' K' => layE h, ⟨q0, (cb (eqF rfl rfl (v21_1_b0_o0 g0 z0))), (by rfl), ⟨(by rfl), trivial⟩, trivial⟩⟩)
  (by kernel_rfl) Y
theorem v21_2_b1_o0 (g1 : List Nat) (z1 : List.length g1 ≠ (64 : Nat)) : ¬(↑(List.length g1) : Int) = (64 : Int) := by omega
theorem v21_2_b1 (Y : Ys Prop) (l m r s x : Int) (b0 b1 b2 b3 : Bool) (L : LL) (c : Nat) (ro : Bool) (x0 x1 : Int) (h : S19s [geo l m r, .int .i64 s, ag b0 b1 b2 b3, .int .i64 x] = some (Lay.new (Hd.slice 2 1) (some [.int .i64 0]) (AObj.cells [.int .i64 x0, .int .i64 x1] false))) (g0 g1 : List Nat) (q0 : lookV (.one .int) false (.str []) (.int .i64 x0) (mV L) = some (.str g0)) (q1 : lookV (.one .int) false (.str []) (.int .i64 x1) (mV L) = some (.str g1)) (z0 : List.length g0 = 64) (z1 : List.length g1 ≠ 64) :
   body1 pA (callD pA tbV la21 6) Y c21 (v21_1_b0_Qa l m r s x b0 b1 b2 b3 L c ro).args (memO (v21_1_b0_Qa l m r s x b0 b1 b2 b3 L c ro).pre) (endC (v21_1_b0_Qa l m r s x b0 b1 b2 b3 L c ro)) :=
  walkC_of_vc (C := (v21_1_b0_Qa l m r s x b0 b1 b2 b3 L c ro)) (mono21) (.wait 8 (.lay (Lay.new (Hd.slice 2 1) (some [vi 0]) (oC [vi x0, vi x1] false)) (.wait 38 (.res (V.str g0) (.wait 4 (.fix s4 (vi ↑64) (.wait 20 (.res (V.str g1) (.wait 5 (.fix s5 (vb false) .nil))))))))))
  (show ((∀ (m' : Mem) (K' : V → Mem → Prop), la21 (.func (.func 19) [] []) ([geo l m r, vi s, ag b0 b1 b2 b3, vi x]) m' K' = Lay.go (Lay.new (Hd.slice 2 1) (some [vi 0]) (oC [vi x0, vi x1] false)) m' K') ∧ (lookV (KT.one SK.int) false (V.str []) (vi x0) (mV L) = some (V.str g0) ∧ vi ↑(List.length g0) = vi ↑64 ∧ lookV (KT.one SK.int) false (V.str []) (vi x1) (mV L) = some (V.str g1) ∧ vb (eqI (↑(List.length g1)) 64) = vb false ∧ V.tuple [V.str [], vi (Int.ofNat 1)] = V.tuple [V.str [], vi 1] ∧ (rR (some (oM (mV L) c ro)) ∧ True) ∧ True)) from
  ⟨fun m' K' => layE h, ⟨q0, (ci (casN z0)), q1, (cb (eqF rfl rfl (v21_2_b1_o0 g1 z1))), (by rfl), ⟨(by rfl), trivial⟩, trivial⟩⟩)
  (by kernel_rfl) Y
noncomputable abbrev v21_3_ok_Qa (g0 g1 g2 X : List Nat) : Con := { args := [V.slice 0 0 3 3 1], pre := [oC [V.str g0, V.str g1, V.str g2] false], ans := V.tuple [V.str X, vi 0], old := [oC [V.str g0, V.str g1, V.str g2] false], new := [] }
theorem v21_3_ok (Y : Ys Prop) (l m r s x : Int) (b0 b1 b2 b3 : Bool) (L : LL) (c : Nat) (ro : Bool) (x0 x1 x2 : Int) (h : S19s [geo l m r, .int .i64 s, ag b0 b1 b2 b3, .int .i64 x] = some (Lay.new (Hd.slice 3 1) (some [.int .i64 0]) (AObj.cells [.int .i64 x0, .int .i64 x1, .int .i64 x2] false))) (g0 g1 g2 X : List Nat) (q0 : lookV (.one .int) false (.str []) (.int .i64 x0) (mV L) = some (.str g0)) (q1 : lookV (.one .int) false (.str []) (.int .i64 x1) (mV L) = some (.str g1)) (q2 : lookV (.one .int) false (.str []) (.int .i64 x2) (mV L) = some (.str g2)) (z0 : List.length g0 = 64) (z1 : List.length g1 = 64) (z2 : List.length g2 = 64) (hX : S28 (v21_3_ok_Qa g0 g1 g2 X)) :
   body1 pA (callD pA tbV la21 6) Y c21 (v21_1_ok_Qa l m r s x b0 b1 b2 b3 L c ro X).args (memO (v21_1_ok_Qa l m r s x b0 b1 b2 b3 L c ro X).pre) (endC (v21_1_ok_Qa l m r s x b0 b1 b2 b3 L c ro X)) :=
  walkC_of_vc (C := (v21_1_ok_Qa l m r s x b0 b1 b2 b3 L c ro X)) (mono21) (.wait 8 (.lay (Lay.new (Hd.slice 3 1) (some [vi 0]) (oC [vi x0, vi x1, vi x2] false)) (.wait 38 (.res (V.str g0) (.wait 4 (.fix s4 (vi ↑64) (.wait 20 (.res (V.str g1) (.wait 4 (.fix s4 (vi ↑64) (.wait 20 (.res (V.str g2) (.wait 4 (.fix s4 (vi ↑64) (.wait 33 (.res (V.str g0) (.wait 13 (.res (V.str g1) (.wait 13 (.res (V.str g2) (.wait 9 (.con (v21_3_ok_Qa g0 g1 g2 X) [10] .nil))))))))))))))))))))))
  (show ((∀ (m' : Mem) (K' : V → Mem → Prop), la21 (.func (.func 19) [] []) ([geo l m r, vi s, ag b0 b1 b2 b3, vi x]) m' K' = Lay.go (Lay.new (Hd.slice 3 1) (some [vi 0]) (oC [vi x0, vi x1, vi x2] false)) m' K') ∧ (lookV (KT.one SK.int) false (V.str []) (vi x0) (mV L) = some (V.str g0) ∧ vi ↑(List.length g0) = vi ↑64 ∧ lookV (KT.one SK.int) false (V.str []) (vi x1) (mV L) = some (V.str g1) ∧ vi ↑(List.length g1) = vi ↑64 ∧ lookV (KT.one SK.int) false (V.str []) (vi x2) (mV L) = some (V.str g2) ∧ vi ↑(List.length g2) = vi ↑64 ∧ lookV (KT.one SK.int) false (V.str []) (vi x0) (mV L) = some (V.str g0) ∧ lookV (KT.one SK.int) false (V.str []) (vi x1) (mV L) = some (V.str g1) ∧ lookV (KT.one SK.int) false (V.str []) (vi x2) (mV L) = some (V.str g2) ∧ cA (v21_3_ok_Qa g0 g1 g2 X) [10] ([V.slice 10 0 3 3 1]) la21 28 ((oR [10] (oC [V.str g0, V.str g1, V.str g2] false) ∧ True) ∧ (V.tuple [V.str X, vi (Int.ofNat 0)] = V.tuple [V.str X, vi 0] ∧ (rR (some (oM (mV L) c ro)) ∧ True) ∧ True)))) from
  ⟨fun m' K' => layE h, ⟨q0, (ci (casN z0)), q1, (ci (casN z1)), q2, (ci (casN z2)), q0, q1, q2, (cI (hX)), (by kernel_rfl), rfl, rfl, ⟨rfl, trivial⟩, ⟨(by rfl), ⟨(by rfl), trivial⟩, trivial⟩⟩⟩)
  (by kernel_rfl) Y
theorem v21_3_b0 (Y : Ys Prop) (l m r s x : Int) (b0 b1 b2 b3 : Bool) (L : LL) (c : Nat) (ro : Bool) (x0 x1 x2 : Int) (h : S19s [geo l m r, .int .i64 s, ag b0 b1 b2 b3, .int .i64 x] = some (Lay.new (Hd.slice 3 1) (some [.int .i64 0]) (AObj.cells [.int .i64 x0, .int .i64 x1, .int .i64 x2] false))) (g0 g1 g2 : List Nat) (q0 : lookV (.one .int) false (.str []) (.int .i64 x0) (mV L) = some (.str g0)) (q1 : lookV (.one .int) false (.str []) (.int .i64 x1) (mV L) = some (.str g1)) (q2 : lookV (.one .int) false (.str []) (.int .i64 x2) (mV L) = some (.str g2)) (z0 : List.length g0 ≠ 64) :
   body1 pA (callD pA tbV la21 6) Y c21 (v21_1_b0_Qa l m r s x b0 b1 b2 b3 L c ro).args (memO (v21_1_b0_Qa l m r s x b0 b1 b2 b3 L c ro).pre) (endC (v21_1_b0_Qa l m r s x b0 b1 b2 b3 L c ro)) :=
  walkC_of_vc (C := (v21_1_b0_Qa l m r s x b0 b1 b2 b3 L c ro)) (mono21) (.wait 8 (.lay (Lay.new (Hd.slice 3 1) (some [vi 0]) (oC [vi x0, vi x1, vi x2] false)) (.wait 38 (.res (V.str g0) (.wait 5 (.fix s5 (vb false) .nil))))))
  (show ((∀ (m' : Mem) (K' : V → Mem → Prop), la21 (.func (.func 19) [] []) ([geo l m r, vi s, ag b0 b1 b2 b3, vi x]) m' K' = Lay.go (Lay.new (Hd.slice 3 1) (some [vi 0]) (oC [vi x0, vi x1, vi x2] false)) m' K') ∧ (lookV (KT.one SK.int) false (V.str []) (vi x0) (mV L) = some (V.str g0) ∧ vb (eqI (↑(List.length g0)) 64) = vb false ∧ V.tuple [V.str [], vi (Int.ofNat 1)] = V.tuple [V.str [], vi 1] ∧ (rR (some (oM (mV L) c ro)) ∧ True) ∧ True)) from
  ⟨fun m' K' => layE h, ⟨q0, (cb (eqF rfl rfl (v21_1_b0_o0 g0 z0))), (by rfl), ⟨(by rfl), trivial⟩, trivial⟩⟩)
  (by kernel_rfl) Y
theorem v21_3_b1 (Y : Ys Prop) (l m r s x : Int) (b0 b1 b2 b3 : Bool) (L : LL) (c : Nat) (ro : Bool) (x0 x1 x2 : Int) (h : S19s [geo l m r, .int .i64 s, ag b0 b1 b2 b3, .int .i64 x] = some (Lay.new (Hd.slice 3 1) (some [.int .i64 0]) (AObj.cells [.int .i64 x0, .int .i64 x1, .int .i64 x2] false))) (g0 g1 g2 : List Nat) (q0 : lookV (.one .int) false (.str []) (.int .i64 x0) (mV L) = some (.str g0)) (q1 : lookV (.one .int) false (.str []) (.int .i64 x1) (mV L) = some (.str g1)) (q2 : lookV (.one .int) false (.str []) (.int .i64 x2) (mV L) = some (.str g2)) (z0 : List.length g0 = 64) (z1 : List.length g1 ≠ 64) :
   body1 pA (callD pA tbV la21 6) Y c21 (v21_1_b0_Qa l m r s x b0 b1 b2 b3 L c ro).args (memO (v21_1_b0_Qa l m r s x b0 b1 b2 b3 L c ro).pre) (endC (v21_1_b0_Qa l m r s x b0 b1 b2 b3 L c ro)) :=
  walkC_of_vc (C := (v21_1_b0_Qa l m r s x b0 b1 b2 b3 L c ro)) (mono21) (.wait 8 (.lay (Lay.new (Hd.slice 3 1) (some [vi 0]) (oC [vi x0, vi x1, vi x2] false)) (.wait 38 (.res (V.str g0) (.wait 4 (.fix s4 (vi ↑64) (.wait 20 (.res (V.str g1) (.wait 5 (.fix s5 (vb false) .nil))))))))))
  (show ((∀ (m' : Mem) (K' : V → Mem → Prop), la21 (.func (.func 19) [] []) ([geo l m r, vi s, ag b0 b1 b2 b3, vi x]) m' K' = Lay.go (Lay.new (Hd.slice 3 1) (some [vi 0]) (oC [vi x0, vi x1, vi x2] false)) m' K') ∧ (lookV (KT.one SK.int) false (V.str []) (vi x0) (mV L) = some (V.str g0) ∧ vi ↑(List.length g0) = vi ↑64 ∧ lookV (KT.one SK.int) false (V.str []) (vi x1) (mV L) = some (V.str g1) ∧ vb (eqI (↑(List.length g1)) 64) = vb false ∧ V.tuple [V.str [], vi (Int.ofNat 1)] = V.tuple [V.str [], vi 1] ∧ (rR (some (oM (mV L) c ro)) ∧ True) ∧ True)) from
  ⟨fun m' K' => layE h, ⟨q0, (ci (casN z0)), q1, (cb (eqF rfl rfl (v21_2_b1_o0 g1 z1))), (by rfl), ⟨(by rfl), trivial⟩, trivial⟩⟩)
  (by kernel_rfl) Y
theorem v21_3_b2_o0 (g2 : List Nat) (z2 : List.length g2 ≠ (64 : Nat)) : ¬(↑(List.length g2) : Int) = (64 : Int) := by omega
theorem v21_3_b2 (Y : Ys Prop) (l m r s x : Int) (b0 b1 b2 b3 : Bool) (L : LL) (c : Nat) (ro : Bool) (x0 x1 x2 : Int) (h : S19s [geo l m r, .int .i64 s, ag b0 b1 b2 b3, .int .i64 x] = some (Lay.new (Hd.slice 3 1) (some [.int .i64 0]) (AObj.cells [.int .i64 x0, .int .i64 x1, .int .i64 x2] false))) (g0 g1 g2 : List Nat) (q0 : lookV (.one .int) false (.str []) (.int .i64 x0) (mV L) = some (.str g0)) (q1 : lookV (.one .int) false (.str []) (.int .i64 x1) (mV L) = some (.str g1)) (q2 : lookV (.one .int) false (.str []) (.int .i64 x2) (mV L) = some (.str g2)) (z0 : List.length g0 = 64) (z1 : List.length g1 = 64) (z2 : List.length g2 ≠ 64) :
   body1 pA (callD pA tbV la21 6) Y c21 (v21_1_b0_Qa l m r s x b0 b1 b2 b3 L c ro).args (memO (v21_1_b0_Qa l m r s x b0 b1 b2 b3 L c ro).pre) (endC (v21_1_b0_Qa l m r s x b0 b1 b2 b3 L c ro)) :=
  walkC_of_vc (C := (v21_1_b0_Qa l m r s x b0 b1 b2 b3 L c ro)) (mono21) (.wait 8 (.lay (Lay.new (Hd.slice 3 1) (some [vi 0]) (oC [vi x0, vi x1, vi x2] false)) (.wait 38 (.res (V.str g0) (.wait 4 (.fix s4 (vi ↑64) (.wait 20 (.res (V.str g1) (.wait 4 (.fix s4 (vi ↑64) (.wait 20 (.res (V.str g2) (.wait 5 (.fix s5 (vb false) .nil))))))))))))))
  (show ((∀ (m' : Mem) (K' : V → Mem → Prop), la21 (.func (.func 19) [] []) ([geo l m r, vi s, ag b0 b1 b2 b3, vi x]) m' K' = Lay.go (Lay.new (Hd.slice 3 1) (some [vi 0]) (oC [vi x0, vi x1, vi x2] false)) m' K') ∧ (lookV (KT.one SK.int) false (V.str []) (vi x0) (mV L) = some (V.str g0) ∧ vi ↑(List.length g0) = vi ↑64 ∧ lookV (KT.one SK.int) false (V.str []) (vi x1) (mV L) = some (V.str g1) ∧ vi ↑(List.length g1) = vi ↑64 ∧ lookV (KT.one SK.int) false (V.str []) (vi x2) (mV L) = some (V.str g2) ∧ vb (eqI (↑(List.length g2)) 64) = vb false ∧ V.tuple [V.str [], vi (Int.ofNat 1)] = V.tuple [V.str [], vi 1] ∧ (rR (some (oM (mV L) c ro)) ∧ True) ∧ True)) from
  ⟨fun m' K' => layE h, ⟨q0, (ci (casN z0)), q1, (ci (casN z1)), q2, (cb (eqF rfl rfl (v21_3_b2_o0 g2 z2))), (by rfl), ⟨(by rfl), trivial⟩, trivial⟩⟩)
  (by kernel_rfl) Y
end Go.Proofs.Ytjikaankdnmabaa
