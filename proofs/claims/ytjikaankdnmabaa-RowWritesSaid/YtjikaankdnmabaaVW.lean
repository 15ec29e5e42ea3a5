/- Runs of the functions of package row, by script. No condition. -/
import Derived.Test.YtjikaankdnmabaaVD
import Derived.Test.YtjikaankdnmabaaAM42
namespace Go.Proofs.Ytjikaankdnmabaa
open Go Go.AM
set_option maxRecDepth 100000
set_option maxHeartbeats 0
set_option linter.unusedVariables false
theorem xright_o0 (r : Int) (h0 : decide (r < (2 : Int)) = false) (p0 : ¬r < (2 : Int)) (h1 : decide ((64 : Int) < r) = false) (p1 : ¬(64 : Int) < r) : (0 : Int) ≤ r := by omega
theorem xright (Y : Ys Prop) (l m r : Int) (K : V → Mem → Prop) (hK : ∀ mm, K (.bool (rgB l m r)) mm) :
   body1 pA (callD pA tb0 la0 5) Y c57 [geo l m r] ⟨0, .leaf⟩ K :=
  walk_of_vc (mono_false) (.wait 6 (.split s6 (decide (r < 2)) .nil (.wait 5 (.split s11 (decide (64 < r)) .nil (.wait 3 (.fix s14 (vi (r % 2)) (.wait 2 (.split s16 (decide ¬r % 2 = 0) .nil (.wait 4 (.split s19 (decide (l = 1)) .nil (.wait 5 (.split s26 (decide (l = 5)) (.wait 5 (.split s31 (decide ¬m < 3) .nil .nil)) .nil))))))))))))
  (show (vb (ltI r 2) = vb (decide (r < 2)) ∧ ((decide (r < 2)) = true → (vb false = vb (rgB l m r))) ∧ ((decide (r < 2)) = false → (vb (ltI 64 r) = vb (decide (64 < r)) ∧ ((decide (64 < r)) = true → (vb false = vb (rgB l m r))) ∧ ((decide (64 < r)) = false → (vi (Int.tmod r 2) = vi (r % 2) ∧ vb (nB (eqI (r % 2) 0)) = vb (decide ¬r % 2 = 0) ∧ ((decide ¬r % 2 = 0) = true → (vb false = vb (rgB l m r))) ∧ ((decide ¬r % 2 = 0) = false → (vb (eqI l 1) = vb (decide (l = 1)) ∧ ((decide (l = 1)) = true → (vb (eqI m 2) = vb (rgB l m r))) ∧ ((decide (l = 1)) = false → (vb (eqI l 5) = vb (decide (l = 5)) ∧ ((decide (l = 5)) = true → (vb (nB (ltI m 3)) = vb (decide ¬m < 3) ∧ ((decide ¬m < 3) = true → (vb (nB (ltI 4 m)) = vb (rgB l m r))) ∧ ((decide ¬m < 3) = false → (vb false = vb (rgB l m r))))) ∧ ((decide (l = 5)) = false → (vb false = vb (rgB l m r)))))))))))) from
  ⟨cb (ltD rfl rfl), (sT fun p0 => (gF (by unfold rgP; omega))), (fun h0 => have p0 := dF h0; ⟨cb (ltD rfl rfl), (sT fun p1 => (gF (by unfold rgP; omega))), (fun h1 => have p1 := dF h1; ⟨(ci (tmodE rfl rfl (xright_o0 r h0 p0 h1 p1))), cb ((congrArg Bool.not (eqD rfl rfl)).trans (notD _)), (sT fun p2 => (gF (by unfold rgP; omega))), (sF fun p2 => ⟨cb (eqD rfl rfl), (sT fun p3 => (Eq.trans (cb (eqD rfl rfl)) (gD (by unfold rgP; omega)))), (sF fun p3 => ⟨cb (eqD rfl rfl), (sT fun p4 => ⟨cb ((congrArg Bool.not (ltD rfl rfl)).trans (notD _)), (sT fun p5 => (Eq.trans (cb ((congrArg Bool.not (ltD rfl rfl)).trans (notD _))) (gD (by unfold rgP; omega)))), (sF fun p5 => (gF (by unfold rgP; omega)))⟩), (sF fun p4 => (gF (by unfold rgP; omega)))⟩)⟩)⟩)⟩)⟩)
  (by kernel_rfl) Y K hK
theorem m30_n (Y : Ys Prop) (l m r s : Int) (b0 b1 b2 b3 : Bool) (o : roB l m r s = false) (z : pz l m r s = 0) (K : V → Mem → Prop) (hK : ∀ mm, K (.int .i64 1) mm) :
   body1 pA (callD pA tb0 la3 5) Y c30 [geo l m r, .int .i64 s, ag b0 b1 b2 b3] ⟨0, .leaf⟩ K :=
  walk_of_vc (mono3) (.wait 6 (.fix s14 (V.tuple [vi 0, vb false]) .nil))
  (show (V.tuple [vi (pz l m r s), vb (roB l m r s)] = V.tuple [vi 0, vb false] ∧ vi (Int.ofNat 1) = vi 1) from
  ⟨(congrArg V.tuple (consE (ci z) (consE (cb o) rfl))), (by rfl)⟩)
  (by kernel_rfl) Y K hK
theorem m39_n1 (Y : Ys Prop) (l m r s : Int) (b0 b1 b2 b3 : Bool) (o : rgB l m r = false) (K : V → Mem → Prop) (hK : ∀ mm, K (.int .i64 1) mm) :
   body1 pA (callD pA tb0 la57 5) Y c39 [geo l m r, .int .i64 s, ag b0 b1 b2 b3] ⟨0, .leaf⟩ K :=
  walk_of_vc (mono57) (.wait 5 (.fix s10 (vb false) .nil))
  (show (vb (rgB l m r) = vb false ∧ vi (Int.ofNat 1) = vi 1) from
  ⟨(cb o), (by rfl)⟩)
  (by kernel_rfl) Y K hK
theorem m39_n2_o0 (s : Int) (u : s < (0 : Int)) : s < (0 : Int) := by omega
theorem m39_n2 (Y : Ys Prop) (l m r s : Int) (b0 b1 b2 b3 : Bool) (o : rgB l m r = true) (u : s < 0) (K : V → Mem → Prop) (hK : ∀ mm, K (.int .i64 1) mm) :
   body1 pA (callD pA tb0 la57 5) Y c39 [geo l m r, .int .i64 s, ag b0 b1 b2 b3] ⟨0, .leaf⟩ K :=
  walk_of_vc (mono57) (.wait 5 (.fix s10 (vb true) (.wait 4 (.fix s14 (vb true) .nil))))
  (show (vb (rgB l m r) = vb true ∧ vb (ltI s 0) = vb true ∧ vi (Int.ofNat 1) = vi 1) from
  ⟨(cb o), (cb (ltT rfl rfl (m39_n2_o0 s u))), (by rfl)⟩)
  (by kernel_rfl) Y K hK
theorem m39_n3_o0 (s : Int) (u : (0 : Int) ≤ s) : ¬s < (0 : Int) := by omega
theorem m39_n3_o1 (r : Int) (s : Int) (u : (0 : Int) ≤ s) (u2 : r ≤ s) : ¬s < r := by omega
theorem m39_n3 (Y : Ys Prop) (l m r s : Int) (b0 b1 b2 b3 : Bool) (o : rgB l m r = true) (u : 0 ≤ s) (u2 : r ≤ s) (K : V → Mem → Prop) (hK : ∀ mm, K (.int .i64 1) mm) :
   body1 pA (callD pA tb0 la57 5) Y c39 [geo l m r, .int .i64 s, ag b0 b1 b2 b3] ⟨0, .leaf⟩ K :=
  walk_of_vc (mono57) (.wait 5 (.fix s10 (vb true) (.wait 4 (.fix s14 (vb false) (.wait 6 (.fix s20 (vb true) .nil))))))
  (show (vb (rgB l m r) = vb true ∧ vb (ltI s 0) = vb false ∧ vb (nB (ltI s r)) = vb true ∧ vi (Int.ofNat 1) = vi 1) from
  ⟨(cb o), (cb (ltF rfl rfl (m39_n3_o0 s u))), (cb (congrArg Bool.not (ltF rfl rfl (m39_n3_o1 r s u u2)))), (by rfl)⟩)
  (by kernel_rfl) Y K hK
theorem m30_2_0 (Y : Ys Prop) (r s : Int) (b2 : Bool) (b3 : Bool) (o : roB 1 2 r s = true) (K : V → Mem → Prop) (hK : ∀ mm, K (.int .i64 20) mm) :
   body1 pA (callD pA tb0 la3 5) Y c30 [geo 1 2 r, .int .i64 s, ag false false b2 b3] ⟨0, .leaf⟩ K :=
  walk_of_vc (mono3) (.wait 6 (.fix s14 (V.tuple [vi (pz 1 2 r s), vb true]) .nil))
  (show (V.tuple [vi (pz 1 2 r s), vb (roB 1 2 r s)] = V.tuple [vi (pz 1 2 r s), vb true] ∧ vi (Int.ofNat 20) = vi 20) from
  ⟨(congrArg V.tuple (consE rfl (consE (cb o) rfl))), (by rfl)⟩)
  (by kernel_rfl) Y K hK
theorem m39_2_0_o1 (r : Int) (s : Int) (o : rgB (1 : Int) (2 : Int) r = true) (u : (0 : Int) ≤ s) (u2 : s < r) : s < r := by omega
theorem m39_2_0 (Y : Ys Prop) (r s : Int) (b2 : Bool) (b3 : Bool) (o : rgB 1 2 r = true) (u : 0 ≤ s) (u2 : s < r) (K : V → Mem → Prop) (hK : ∀ mm, K (.int .i64 20) mm) :
   body1 pA (callD pA tb0 la57 5) Y c39 [geo 1 2 r, .int .i64 s, ag false false b2 b3] ⟨0, .leaf⟩ K :=
  walk_of_vc (mono57) (.wait 5 (.fix s10 (vb true) (.wait 4 (.fix s14 (vb false) (.wait 6 (.fix s20 (vb false) .nil))))))
  (show (vb (rgB 1 2 r) = vb true ∧ vb (ltI s 0) = vb false ∧ vb (nB (ltI s r)) = vb false ∧ vi (Int.ofNat 20) = vi 20) from
  ⟨(cb o), (cb (ltF rfl rfl (m39_n3_o0 s u))), (cb (congrArg Bool.not (ltT rfl rfl (m39_2_0_o1 r s o u u2)))), (by rfl)⟩)
  (by kernel_rfl) Y K hK
theorem m30_2_1 (Y : Ys Prop) (r s : Int) (b2 : Bool) (b3 : Bool) (o : roB 1 2 r s = true) (K : V → Mem → Prop) (hK : ∀ mm, K (.int .i64 0) mm) :
   body1 pA (callD pA tb0 la3 5) Y c30 [geo 1 2 r, .int .i64 s, ag true false b2 b3] ⟨0, .leaf⟩ K :=
  walk_of_vc (mono3) (.wait 6 (.fix s14 (V.tuple [vi (pz 1 2 r s), vb true]) .nil))
  (show (V.tuple [vi (pz 1 2 r s), vb (roB 1 2 r s)] = V.tuple [vi (pz 1 2 r s), vb true] ∧ vi (Int.ofNat 0) = vi 0) from
  ⟨(congrArg V.tuple (consE rfl (consE (cb o) rfl))), (by rfl)⟩)
  (by kernel_rfl) Y K hK
theorem m39_2_1 (Y : Ys Prop) (r s : Int) (b2 : Bool) (b3 : Bool) (o : rgB 1 2 r = true) (u : 0 ≤ s) (u2 : s < r) (K : V → Mem → Prop) (hK : ∀ mm, K (.int .i64 0) mm) :
   body1 pA (callD pA tb0 la57 5) Y c39 [geo 1 2 r, .int .i64 s, ag true false b2 b3] ⟨0, .leaf⟩ K :=
  walk_of_vc (mono57) (.wait 5 (.fix s10 (vb true) (.wait 4 (.fix s14 (vb false) (.wait 6 (.fix s20 (vb false) .nil))))))
  (show (vb (rgB 1 2 r) = vb true ∧ vb (ltI s 0) = vb false ∧ vb (nB (ltI s r)) = vb false ∧ vi (Int.ofNat 0) = vi 0) from
  ⟨(cb o), (cb (ltF rfl rfl (m39_n3_o0 s u))), (cb (congrArg Bool.not (ltT rfl rfl (m39_2_0_o1 r s o u u2)))), (by rfl)⟩)
  (by kernel_rfl) Y K hK
theorem m30_2_2 (Y : Ys Prop) (r s : Int) (b2 : Bool) (b3 : Bool) (o : roB 1 2 r s = true) (K : V → Mem → Prop) (hK : ∀ mm, K (.int .i64 0) mm) :
   body1 pA (callD pA tb0 la3 5) Y c30 [geo 1 2 r, .int .i64 s, ag false true b2 b3] ⟨0, .leaf⟩ K :=
  walk_of_vc (mono3) (.wait 6 (.fix s14 (V.tuple [vi (pz 1 2 r s), vb true]) .nil))
  (show (V.tuple [vi (pz 1 2 r s), vb (roB 1 2 r s)] = V.tuple [vi (pz 1 2 r s), vb true] ∧ vi (Int.ofNat 0) = vi 0) from
  ⟨(congrArg V.tuple (consE rfl (consE (cb o) rfl))), (by rfl)⟩)
  (by kernel_rfl) Y K hK
theorem m39_2_2 (Y : Ys Prop) (r s : Int) (b2 : Bool) (b3 : Bool) (o : rgB 1 2 r = true) (u : 0 ≤ s) (u2 : s < r) (K : V → Mem → Prop) (hK : ∀ mm, K (.int .i64 0) mm) :
   body1 pA (callD pA tb0 la57 5) Y c39 [geo 1 2 r, .int .i64 s, ag false true b2 b3] ⟨0, .leaf⟩ K :=
  walk_of_vc (mono57) (.wait 5 (.fix s10 (vb true) (.wait 4 (.fix s14 (vb false) (.wait 6 (.fix s20 (vb false) .nil))))))
  (show (vb (rgB 1 2 r) = vb true ∧ vb (ltI s 0) = vb false ∧ vb (nB (ltI s r)) = vb false ∧ vi (Int.ofNat 0) = vi 0) from
  ⟨(cb o), (cb (ltF rfl rfl (m39_n3_o0 s u))), (cb (congrArg Bool.not (ltT rfl rfl (m39_2_0_o1 r s o u u2)))), (by rfl)⟩)
  (by kernel_rfl) Y K hK
theorem m30_2_3 (Y : Ys Prop) (r s : Int) (b2 : Bool) (b3 : Bool) (o : roB 1 2 r s = true) (K : V → Mem → Prop) (hK : ∀ mm, K (.int .i64 0) mm) :
   body1 pA (callD pA tb0 la3 5) Y c30 [geo 1 2 r, .int .i64 s, ag true true b2 b3] ⟨0, .leaf⟩ K :=
  walk_of_vc (mono3) (.wait 6 (.fix s14 (V.tuple [vi (pz 1 2 r s), vb true]) .nil))
  (show (V.tuple [vi (pz 1 2 r s), vb (roB 1 2 r s)] = V.tuple [vi (pz 1 2 r s), vb true] ∧ vi (Int.ofNat 0) = vi 0) from
  ⟨(congrArg V.tuple (consE rfl (consE (cb o) rfl))), (by rfl)⟩)
  (by kernel_rfl) Y K hK
theorem m39_2_3 (Y : Ys Prop) (r s : Int) (b2 : Bool) (b3 : Bool) (o : rgB 1 2 r = true) (u : 0 ≤ s) (u2 : s < r) (K : V → Mem → Prop) (hK : ∀ mm, K (.int .i64 0) mm) :
   body1 pA (callD pA tb0 la57 5) Y c39 [geo 1 2 r, .int .i64 s, ag true true b2 b3] ⟨0, .leaf⟩ K :=
  walk_of_vc (mono57) (.wait 5 (.fix s10 (vb true) (.wait 4 (.fix s14 (vb false) (.wait 6 (.fix s20 (vb false) .nil))))))
  (show (vb (rgB 1 2 r) = vb true ∧ vb (ltI s 0) = vb false ∧ vb (nB (ltI s r)) = vb false ∧ vi (Int.ofNat 0) = vi 0) from
  ⟨(cb o), (cb (ltF rfl rfl (m39_n3_o0 s u))), (cb (congrArg Bool.not (ltT rfl rfl (m39_2_0_o1 r s o u u2)))), (by rfl)⟩)
  (by kernel_rfl) Y K hK
theorem m30_3_0 (Y : Ys Prop) (r s : Int) (b3 : Bool) (o : roB 5 3 r s = true) (K : V → Mem → Prop) (hK : ∀ mm, K (.int .i64 20) mm) :
   body1 pA (callD pA tb0 la3 5) Y c30 [geo 5 3 r, .int .i64 s, ag false false false b3] ⟨0, .leaf⟩ K :=
  walk_of_vc (mono3) (.wait 6 (.fix s14 (V.tuple [vi (pz 5 3 r s), vb true]) .nil))
  (show (V.tuple [vi (pz 5 3 r s), vb (roB 5 3 r s)] = V.tuple [vi (pz 5 3 r s), vb true] ∧ vi (Int.ofNat 20) = vi 20) from
  ⟨(congrArg V.tuple (consE rfl (consE (cb o) rfl))), (by rfl)⟩)
  (by kernel_rfl) Y K hK
theorem m39_3_0_o1 (r : Int) (s : Int) (o : rgB (5 : Int) (3 : Int) r = true) (u : (0 : Int) ≤ s) (u2 : s < r) : s < r := by omega
theorem m39_3_0 (Y : Ys Prop) (r s : Int) (b3 : Bool) (o : rgB 5 3 r = true) (u : 0 ≤ s) (u2 : s < r) (K : V → Mem → Prop) (hK : ∀ mm, K (.int .i64 20) mm) :
   body1 pA (callD pA tb0 la57 5) Y c39 [geo 5 3 r, .int .i64 s, ag false false false b3] ⟨0, .leaf⟩ K :=
  walk_of_vc (mono57) (.wait 5 (.fix s10 (vb true) (.wait 4 (.fix s14 (vb false) (.wait 6 (.fix s20 (vb false) .nil))))))
  (show (vb (rgB 5 3 r) = vb true ∧ vb (ltI s 0) = vb false ∧ vb (nB (ltI s r)) = vb false ∧ vi (Int.ofNat 20) = vi 20) from
  ⟨(cb o), (cb (ltF rfl rfl (m39_n3_o0 s u))), (cb (congrArg Bool.not (ltT rfl rfl (m39_3_0_o1 r s o u u2)))), (by rfl)⟩)
  (by kernel_rfl) Y K hK
theorem m30_3_1 (Y : Ys Prop) (r s : Int) (b3 : Bool) (o : roB 5 3 r s = true) (K : V → Mem → Prop) (hK : ∀ mm, K (.int .i64 20) mm) :
   body1 pA (callD pA tb0 la3 5) Y c30 [geo 5 3 r, .int .i64 s, ag true false false b3] ⟨0, .leaf⟩ K :=
  walk_of_vc (mono3) (.wait 6 (.fix s14 (V.tuple [vi (pz 5 3 r s), vb true]) .nil))
  (show (V.tuple [vi (pz 5 3 r s), vb (roB 5 3 r s)] = V.tuple [vi (pz 5 3 r s), vb true] ∧ vi (Int.ofNat 20) = vi 20) from
  ⟨(congrArg V.tuple (consE rfl (consE (cb o) rfl))), (by rfl)⟩)
  (by kernel_rfl) Y K hK
theorem m39_3_1 (Y : Ys Prop) (r s : Int) (b3 : Bool) (o : rgB 5 3 r = true) (u : 0 ≤ s) (u2 : s < r) (K : V → Mem → Prop) (hK : ∀ mm, K (.int .i64 20) mm) :
   body1 pA (callD pA tb0 la57 5) Y c39 [geo 5 3 r, .int .i64 s, ag true false false b3] ⟨0, .leaf⟩ K :=
  walk_of_vc (mono57) (.wait 5 (.fix s10 (vb true) (.wait 4 (.fix s14 (vb false) (.wait 6 (.fix s20 (vb false) .nil))))))
  (show (vb (rgB 5 3 r) = vb true ∧ vb (ltI s 0) = vb false ∧ vb (nB (ltI s r)) = vb false ∧ vi (Int.ofNat 20) = vi 20) from
  ⟨(cb o), (cb (ltF rfl rfl (m39_n3_o0 s u))), (cb (congrArg Bool.not (ltT rfl rfl (m39_3_0_o1 r s o u u2)))), (by rfl)⟩)
  (by kernel_rfl) Y K hK
theorem m30_3_2 (Y : Ys Prop) (r s : Int) (b3 : Bool) (o : roB 5 3 r s = true) (K : V → Mem → Prop) (hK : ∀ mm, K (.int .i64 20) mm) :
   body1 pA (callD pA tb0 la3 5) Y c30 [geo 5 3 r, .int .i64 s, ag false true false b3] ⟨0, .leaf⟩ K :=
  walk_of_vc (mono3) (.wait 6 (.fix s14 (V.tuple [vi (pz 5 3 r s), vb true]) .nil))
  (show (V.tuple [vi (pz 5 3 r s), vb (roB 5 3 r s)] = V.tuple [vi (pz 5 3 r s), vb true] ∧ vi (Int.ofNat 20) = vi 20) from
  ⟨(congrArg V.tuple (consE rfl (consE (cb o) rfl))), (by rfl)⟩)
  (by kernel_rfl) Y K hK
theorem m39_3_2 (Y : Ys Prop) (r s : Int) (b3 : Bool) (o : rgB 5 3 r = true) (u : 0 ≤ s) (u2 : s < r) (K : V → Mem → Prop) (hK : ∀ mm, K (.int .i64 20) mm) :
   body1 pA (callD pA tb0 la57 5) Y c39 [geo 5 3 r, .int .i64 s, ag false true false b3] ⟨0, .leaf⟩ K :=
  walk_of_vc (mono57) (.wait 5 (.fix s10 (vb true) (.wait 4 (.fix s14 (vb false) (.wait 6 (.fix s20 (vb false) .nil))))))
  (show (vb (rgB 5 3 r) = vb true ∧ vb (ltI s 0) = vb false ∧ vb (nB (ltI s r)) = vb false ∧ vi (Int.ofNat 20) = vi 20) from
  ⟨(cb o), (cb (ltF rfl rfl (m39_n3_o0 s u))), (cb (congrArg Bool.not (ltT rfl rfl (m39_3_0_o1 r s o u u2)))), (by rfl)⟩)
  (by kernel_rfl) Y K hK
theorem m30_3_3 (Y : Ys Prop) (r s : Int) (b3 : Bool) (o : roB 5 3 r s = true) (K : V → Mem → Prop) (hK : ∀ mm, K (.int .i64 0) mm) :
   body1 pA (callD pA tb0 la3 5) Y c30 [geo 5 3 r, .int .i64 s, ag true true false b3] ⟨0, .leaf⟩ K :=
  walk_of_vc (mono3) (.wait 6 (.fix s14 (V.tuple [vi (pz 5 3 r s), vb true]) .nil))
  (show (V.tuple [vi (pz 5 3 r s), vb (roB 5 3 r s)] = V.tuple [vi (pz 5 3 r s), vb true] ∧ vi (Int.ofNat 0) = vi 0) from
  ⟨(congrArg V.tuple (consE rfl (consE (cb o) rfl))), (by rfl)⟩)
  (by kernel_rfl) Y K hK
theorem m39_3_3 (Y : Ys Prop) (r s : Int) (b3 : Bool) (o : rgB 5 3 r = true) (u : 0 ≤ s) (u2 : s < r) (K : V → Mem → Prop) (hK : ∀ mm, K (.int .i64 0) mm) :
   body1 pA (callD pA tb0 la57 5) Y c39 [geo 5 3 r, .int .i64 s, ag true true false b3] ⟨0, .leaf⟩ K :=
  walk_of_vc (mono57) (.wait 5 (.fix s10 (vb true) (.wait 4 (.fix s14 (vb false) (.wait 6 (.fix s20 (vb false) .nil))))))
  (show (vb (rgB 5 3 r) = vb true ∧ vb (ltI s 0) = vb false ∧ vb (nB (ltI s r)) = vb false ∧ vi (Int.ofNat 0) = vi 0) from
  ⟨(cb o), (cb (ltF rfl rfl (m39_n3_o0 s u))), (cb (congrArg Bool.not (ltT rfl rfl (m39_3_0_o1 r s o u u2)))), (by rfl)⟩)
  (by kernel_rfl) Y K hK
theorem m30_3_4 (Y : Ys Prop) (r s : Int) (b3 : Bool) (o : roB 5 3 r s = true) (K : V → Mem → Prop) (hK : ∀ mm, K (.int .i64 20) mm) :
   body1 pA (callD pA tb0 la3 5) Y c30 [geo 5 3 r, .int .i64 s, ag false false true b3] ⟨0, .leaf⟩ K :=
  walk_of_vc (mono3) (.wait 6 (.fix s14 (V.tuple [vi (pz 5 3 r s), vb true]) .nil))
  (show (V.tuple [vi (pz 5 3 r s), vb (roB 5 3 r s)] = V.tuple [vi (pz 5 3 r s), vb true] ∧ vi (Int.ofNat 20) = vi 20) from
  ⟨(congrArg V.tuple (consE rfl (consE (cb o) rfl))), (by rfl)⟩)
  (by kernel_rfl) Y K hK
theorem m39_3_4 (Y : Ys Prop) (r s : Int) (b3 : Bool) (o : rgB 5 3 r = true) (u : 0 ≤ s) (u2 : s < r) (K : V → Mem → Prop) (hK : ∀ mm, K (.int .i64 20) mm) :
   body1 pA (callD pA tb0 la57 5) Y c39 [geo 5 3 r, .int .i64 s, ag false false true b3] ⟨0, .leaf⟩ K :=
  walk_of_vc (mono57) (.wait 5 (.fix s10 (vb true) (.wait 4 (.fix s14 (vb false) (.wait 6 (.fix s20 (vb false) .nil))))))
  (show (vb (rgB 5 3 r) = vb true ∧ vb (ltI s 0) = vb false ∧ vb (nB (ltI s r)) = vb false ∧ vi (Int.ofNat 20) = vi 20) from
  ⟨(cb o), (cb (ltF rfl rfl (m39_n3_o0 s u))), (cb (congrArg Bool.not (ltT rfl rfl (m39_3_0_o1 r s o u u2)))), (by rfl)⟩)
  (by kernel_rfl) Y K hK
theorem m30_3_5 (Y : Ys Prop) (r s : Int) (b3 : Bool) (o : roB 5 3 r s = true) (K : V → Mem → Prop) (hK : ∀ mm, K (.int .i64 0) mm) :
   body1 pA (callD pA tb0 la3 5) Y c30 [geo 5 3 r, .int .i64 s, ag true false true b3] ⟨0, .leaf⟩ K :=
  walk_of_vc (mono3) (.wait 6 (.fix s14 (V.tuple [vi (pz 5 3 r s), vb true]) .nil))
  (show (V.tuple [vi (pz 5 3 r s), vb (roB 5 3 r s)] = V.tuple [vi (pz 5 3 r s), vb true] ∧ vi (Int.ofNat 0) = vi 0) from
  ⟨(congrArg V.tuple (consE rfl (consE (cb o) rfl))), (by rfl)⟩)
  (by kernel_rfl) Y K hK
theorem m39_3_5 (Y : Ys Prop) (r s : Int) (b3 : Bool) (o : rgB 5 3 r = true) (u : 0 ≤ s) (u2 : s < r) (K : V → Mem → Prop) (hK : ∀ mm, K (.int .i64 0) mm) :
   body1 pA (callD pA tb0 la57 5) Y c39 [geo 5 3 r, .int .i64 s, ag true false true b3] ⟨0, .leaf⟩ K :=
  walk_of_vc (mono57) (.wait 5 (.fix s10 (vb true) (.wait 4 (.fix s14 (vb false) (.wait 6 (.fix s20 (vb false) .nil))))))
  (show (vb (rgB 5 3 r) = vb true ∧ vb (ltI s 0) = vb false ∧ vb (nB (ltI s r)) = vb false ∧ vi (Int.ofNat 0) = vi 0) from
  ⟨(cb o), (cb (ltF rfl rfl (m39_n3_o0 s u))), (cb (congrArg Bool.not (ltT rfl rfl (m39_3_0_o1 r s o u u2)))), (by rfl)⟩)
  (by kernel_rfl) Y K hK
theorem m30_3_6 (Y : Ys Prop) (r s : Int) (b3 : Bool) (o : roB 5 3 r s = true) (K : V → Mem → Prop) (hK : ∀ mm, K (.int .i64 0) mm) :
   body1 pA (callD pA tb0 la3 5) Y c30 [geo 5 3 r, .int .i64 s, ag false true true b3] ⟨0, .leaf⟩ K :=
  walk_of_vc (mono3) (.wait 6 (.fix s14 (V.tuple [vi (pz 5 3 r s), vb true]) .nil))
  (show (V.tuple [vi (pz 5 3 r s), vb (roB 5 3 r s)] = V.tuple [vi (pz 5 3 r s), vb true] ∧ vi (Int.ofNat 0) = vi 0) from
  ⟨(congrArg V.tuple (consE rfl (consE (cb o) rfl))), (by rfl)⟩)
  (by kernel_rfl) Y K hK
theorem m39_3_6 (Y : Ys Prop) (r s : Int) (b3 : Bool) (o : rgB 5 3 r = true) (u : 0 ≤ s) (u2 : s < r) (K : V → Mem → Prop) (hK : ∀ mm, K (.int .i64 0) mm) :
   body1 pA (callD pA tb0 la57 5) Y c39 [geo 5 3 r, .int .i64 s, ag false true true b3] ⟨0, .leaf⟩ K :=
  walk_of_vc (mono57) (.wait 5 (.fix s10 (vb true) (.wait 4 (.fix s14 (vb false) (.wait 6 (.fix s20 (vb false) .nil))))))
  (show (vb (rgB 5 3 r) = vb true ∧ vb (ltI s 0) = vb false ∧ vb (nB (ltI s r)) = vb false ∧ vi (Int.ofNat 0) = vi 0) from
  ⟨(cb o), (cb (ltF rfl rfl (m39_n3_o0 s u))), (cb (congrArg Bool.not (ltT rfl rfl (m39_3_0_o1 r s o u u2)))), (by rfl)⟩)
  (by kernel_rfl) Y K hK
theorem m30_3_7 (Y : Ys Prop) (r s : Int) (b3 : Bool) (o : roB 5 3 r s = true) (K : V → Mem → Prop) (hK : ∀ mm, K (.int .i64 0) mm) :
   body1 pA (callD pA tb0 la3 5) Y c30 [geo 5 3 r, .int .i64 s, ag true true true b3] ⟨0, .leaf⟩ K :=
  walk_of_vc (mono3) (.wait 6 (.fix s14 (V.tuple [vi (pz 5 3 r s), vb true]) .nil))
  (show (V.tuple [vi (pz 5 3 r s), vb (roB 5 3 r s)] = V.tuple [vi (pz 5 3 r s), vb true] ∧ vi (Int.ofNat 0) = vi 0) from
  ⟨(congrArg V.tuple (consE rfl (consE (cb o) rfl))), (by rfl)⟩)
  (by kernel_rfl) Y K hK
theorem m39_3_7 (Y : Ys Prop) (r s : Int) (b3 : Bool) (o : rgB 5 3 r = true) (u : 0 ≤ s) (u2 : s < r) (K : V → Mem → Prop) (hK : ∀ mm, K (.int .i64 0) mm) :
   body1 pA (callD pA tb0 la57 5) Y c39 [geo 5 3 r, .int .i64 s, ag true true true b3] ⟨0, .leaf⟩ K :=
  walk_of_vc (mono57) (.wait 5 (.fix s10 (vb true) (.wait 4 (.fix s14 (vb false) (.wait 6 (.fix s20 (vb false) .nil))))))
  (show (vb (rgB 5 3 r) = vb true ∧ vb (ltI s 0) = vb false ∧ vb (nB (ltI s r)) = vb false ∧ vi (Int.ofNat 0) = vi 0) from
  ⟨(cb o), (cb (ltF rfl rfl (m39_n3_o0 s u))), (cb (congrArg Bool.not (ltT rfl rfl (m39_3_0_o1 r s o u u2)))), (by rfl)⟩)
  (by kernel_rfl) Y K hK
theorem m30_4_0 (Y : Ys Prop) (r s : Int) (o : roB 5 4 r s = true) (K : V → Mem → Prop) (hK : ∀ mm, K (.int .i64 20) mm) :
   body1 pA (callD pA tb0 la3 5) Y c30 [geo 5 4 r, .int .i64 s, ag false false false false] ⟨0, .leaf⟩ K :=
  walk_of_vc (mono3) (.wait 6 (.fix s14 (V.tuple [vi (pz 5 4 r s), vb true]) .nil))
  (show (V.tuple [vi (pz 5 4 r s), vb (roB 5 4 r s)] = V.tuple [vi (pz 5 4 r s), vb true] ∧ vi (Int.ofNat 20) = vi 20) from
  ⟨(congrArg V.tuple (consE rfl (consE (cb o) rfl))), (by rfl)⟩)
  (by kernel_rfl) Y K hK
theorem m39_4_0_o1 (r : Int) (s : Int) (o : rgB (5 : Int) (4 : Int) r = true) (u : (0 : Int) ≤ s) (u2 : s < r) : s < r := by omega
theorem m39_4_0 (Y : Ys Prop) (r s : Int) (o : rgB 5 4 r = true) (u : 0 ≤ s) (u2 : s < r) (K : V → Mem → Prop) (hK : ∀ mm, K (.int .i64 20) mm) :
   body1 pA (callD pA tb0 la57 5) Y c39 [geo 5 4 r, .int .i64 s, ag false false false false] ⟨0, .leaf⟩ K :=
  walk_of_vc (mono57) (.wait 5 (.fix s10 (vb true) (.wait 4 (.fix s14 (vb false) (.wait 6 (.fix s20 (vb false) .nil))))))
  (show (vb (rgB 5 4 r) = vb true ∧ vb (ltI s 0) = vb false ∧ vb (nB (ltI s r)) = vb false ∧ vi (Int.ofNat 20) = vi 20) from
  ⟨(cb o), (cb (ltF rfl rfl (m39_n3_o0 s u))), (cb (congrArg Bool.not (ltT rfl rfl (m39_4_0_o1 r s o u u2)))), (by rfl)⟩)
  (by kernel_rfl) Y K hK
theorem m30_4_1 (Y : Ys Prop) (r s : Int) (o : roB 5 4 r s = true) (K : V → Mem → Prop) (hK : ∀ mm, K (.int .i64 20) mm) :
   body1 pA (callD pA tb0 la3 5) Y c30 [geo 5 4 r, .int .i64 s, ag true false false false] ⟨0, .leaf⟩ K :=
  walk_of_vc (mono3) (.wait 6 (.fix s14 (V.tuple [vi (pz 5 4 r s), vb true]) .nil))
  (show (V.tuple [vi (pz 5 4 r s), vb (roB 5 4 r s)] = V.tuple [vi (pz 5 4 r s), vb true] ∧ vi (Int.ofNat 20) = vi 20) from
  ⟨(congrArg V.tuple (consE rfl (consE (cb o) rfl))), (by rfl)⟩)
  (by kernel_rfl) Y K hK
theorem m39_4_1 (Y : Ys Prop) (r s : Int) (o : rgB 5 4 r = true) (u : 0 ≤ s) (u2 : s < r) (K : V → Mem → Prop) (hK : ∀ mm, K (.int .i64 20) mm) :
   body1 pA (callD pA tb0 la57 5) Y c39 [geo 5 4 r, .int .i64 s, ag true false false false] ⟨0, .leaf⟩ K :=
  walk_of_vc (mono57) (.wait 5 (.fix s10 (vb true) (.wait 4 (.fix s14 (vb false) (.wait 6 (.fix s20 (vb false) .nil))))))
  (show (vb (rgB 5 4 r) = vb true ∧ vb (ltI s 0) = vb false ∧ vb (nB (ltI s r)) = vb false ∧ vi (Int.ofNat 20) = vi 20) from
  ⟨(cb o), (cb (ltF rfl rfl (m39_n3_o0 s u))), (cb (congrArg Bool.not (ltT rfl rfl (m39_4_0_o1 r s o u u2)))), (by rfl)⟩)
  (by kernel_rfl) Y K hK
theorem m30_4_2 (Y : Ys Prop) (r s : Int) (o : roB 5 4 r s = true) (K : V → Mem → Prop) (hK : ∀ mm, K (.int .i64 20) mm) :
   body1 pA (callD pA tb0 la3 5) Y c30 [geo 5 4 r, .int .i64 s, ag false true false false] ⟨0, .leaf⟩ K :=
  walk_of_vc (mono3) (.wait 6 (.fix s14 (V.tuple [vi (pz 5 4 r s), vb true]) .nil))
  (show (V.tuple [vi (pz 5 4 r s), vb (roB 5 4 r s)] = V.tuple [vi (pz 5 4 r s), vb true] ∧ vi (Int.ofNat 20) = vi 20) from
  ⟨(congrArg V.tuple (consE rfl (consE (cb o) rfl))), (by rfl)⟩)
  (by kernel_rfl) Y K hK
theorem m39_4_2 (Y : Ys Prop) (r s : Int) (o : rgB 5 4 r = true) (u : 0 ≤ s) (u2 : s < r) (K : V → Mem → Prop) (hK : ∀ mm, K (.int .i64 20) mm) :
   body1 pA (callD pA tb0 la57 5) Y c39 [geo 5 4 r, .int .i64 s, ag false true false false] ⟨0, .leaf⟩ K :=
  walk_of_vc (mono57) (.wait 5 (.fix s10 (vb true) (.wait 4 (.fix s14 (vb false) (.wait 6 (.fix s20 (vb false) .nil))))))
  (show (vb (rgB 5 4 r) = vb true ∧ vb (ltI s 0) = vb false ∧ vb (nB (ltI s r)) = vb false ∧ vi (Int.ofNat 20) = vi 20) from
  ⟨(cb o), (cb (ltF rfl rfl (m39_n3_o0 s u))), (cb (congrArg Bool.not (ltT rfl rfl (m39_4_0_o1 r s o u u2)))), (by rfl)⟩)
  (by kernel_rfl) Y K hK
theorem m30_4_3 (Y : Ys Prop) (r s : Int) (o : roB 5 4 r s = true) (K : V → Mem → Prop) (hK : ∀ mm, K (.int .i64 20) mm) :
   body1 pA (callD pA tb0 la3 5) Y c30 [geo 5 4 r, .int .i64 s, ag true true false false] ⟨0, .leaf⟩ K :=
  walk_of_vc (mono3) (.wait 6 (.fix s14 (V.tuple [vi (pz 5 4 r s), vb true]) .nil))
  (show (V.tuple [vi (pz 5 4 r s), vb (roB 5 4 r s)] = V.tuple [vi (pz 5 4 r s), vb true] ∧ vi (Int.ofNat 20) = vi 20) from
  ⟨(congrArg V.tuple (consE rfl (consE (cb o) rfl))), (by rfl)⟩)
  (by kernel_rfl) Y K hK
theorem m39_4_3 (Y : Ys Prop) (r s : Int) (o : rgB 5 4 r = true) (u : 0 ≤ s) (u2 : s < r) (K : V → Mem → Prop) (hK : ∀ mm, K (.int .i64 20) mm) :
   body1 pA (callD pA tb0 la57 5) Y c39 [geo 5 4 r, .int .i64 s, ag true true false false] ⟨0, .leaf⟩ K :=
  walk_of_vc (mono57) (.wait 5 (.fix s10 (vb true) (.wait 4 (.fix s14 (vb false) (.wait 6 (.fix s20 (vb false) .nil))))))
  (show (vb (rgB 5 4 r) = vb true ∧ vb (ltI s 0) = vb false ∧ vb (nB (ltI s r)) = vb false ∧ vi (Int.ofNat 20) = vi 20) from
  ⟨(cb o), (cb (ltF rfl rfl (m39_n3_o0 s u))), (cb (congrArg Bool.not (ltT rfl rfl (m39_4_0_o1 r s o u u2)))), (by rfl)⟩)
  (by kernel_rfl) Y K hK
theorem m30_4_4 (Y : Ys Prop) (r s : Int) (o : roB 5 4 r s = true) (K : V → Mem → Prop) (hK : ∀ mm, K (.int .i64 20) mm) :
   body1 pA (callD pA tb0 la3 5) Y c30 [geo 5 4 r, .int .i64 s, ag false false true false] ⟨0, .leaf⟩ K :=
  walk_of_vc (mono3) (.wait 6 (.fix s14 (V.tuple [vi (pz 5 4 r s), vb true]) .nil))
  (show (V.tuple [vi (pz 5 4 r s), vb (roB 5 4 r s)] = V.tuple [vi (pz 5 4 r s), vb true] ∧ vi (Int.ofNat 20) = vi 20) from
  ⟨(congrArg V.tuple (consE rfl (consE (cb o) rfl))), (by rfl)⟩)
  (by kernel_rfl) Y K hK
theorem m39_4_4 (Y : Ys Prop) (r s : Int) (o : rgB 5 4 r = true) (u : 0 ≤ s) (u2 : s < r) (K : V → Mem → Prop) (hK : ∀ mm, K (.int .i64 20) mm) :
   body1 pA (callD pA tb0 la57 5) Y c39 [geo 5 4 r, .int .i64 s, ag false false true false] ⟨0, .leaf⟩ K :=
  walk_of_vc (mono57) (.wait 5 (.fix s10 (vb true) (.wait 4 (.fix s14 (vb false) (.wait 6 (.fix s20 (vb false) .nil))))))
  (show (vb (rgB 5 4 r) = vb true ∧ vb (ltI s 0) = vb false ∧ vb (nB (ltI s r)) = vb false ∧ vi (Int.ofNat 20) = vi 20) from
  ⟨(cb o), (cb (ltF rfl rfl (m39_n3_o0 s u))), (cb (congrArg Bool.not (ltT rfl rfl (m39_4_0_o1 r s o u u2)))), (by rfl)⟩)
  (by kernel_rfl) Y K hK
theorem m30_4_5 (Y : Ys Prop) (r s : Int) (o : roB 5 4 r s = true) (K : V → Mem → Prop) (hK : ∀ mm, K (.int .i64 20) mm) :
   body1 pA (callD pA tb0 la3 5) Y c30 [geo 5 4 r, .int .i64 s, ag true false true false] ⟨0, .leaf⟩ K :=
  walk_of_vc (mono3) (.wait 6 (.fix s14 (V.tuple [vi (pz 5 4 r s), vb true]) .nil))
  (show (V.tuple [vi (pz 5 4 r s), vb (roB 5 4 r s)] = V.tuple [vi (pz 5 4 r s), vb true] ∧ vi (Int.ofNat 20) = vi 20) from
  ⟨(congrArg V.tuple (consE rfl (consE (cb o) rfl))), (by rfl)⟩)
  (by kernel_rfl) Y K hK
theorem m39_4_5 (Y : Ys Prop) (r s : Int) (o : rgB 5 4 r = true) (u : 0 ≤ s) (u2 : s < r) (K : V → Mem → Prop) (hK : ∀ mm, K (.int .i64 20) mm) :
   body1 pA (callD pA tb0 la57 5) Y c39 [geo 5 4 r, .int .i64 s, ag true false true false] ⟨0, .leaf⟩ K :=
  walk_of_vc (mono57) (.wait 5 (.fix s10 (vb true) (.wait 4 (.fix s14 (vb false) (.wait 6 (.fix s20 (vb false) .nil))))))
  (show (vb (rgB 5 4 r) = vb true ∧ vb (ltI s 0) = vb false ∧ vb (nB (ltI s r)) = vb false ∧ vi (Int.ofNat 20) = vi 20) from
  ⟨(cb o), (cb (ltF rfl rfl (m39_n3_o0 s u))), (cb (congrArg Bool.not (ltT rfl rfl (m39_4_0_o1 r s o u u2)))), (by rfl)⟩)
  (by kernel_rfl) Y K hK
theorem m30_4_6 (Y : Ys Prop) (r s : Int) (o : roB 5 4 r s = true) (K : V → Mem → Prop) (hK : ∀ mm, K (.int .i64 20) mm) :
   body1 pA (callD pA tb0 la3 5) Y c30 [geo 5 4 r, .int .i64 s, ag false true true false] ⟨0, .leaf⟩ K :=
  walk_of_vc (mono3) (.wait 6 (.fix s14 (V.tuple [vi (pz 5 4 r s), vb true]) .nil))
  (show (V.tuple [vi (pz 5 4 r s), vb (roB 5 4 r s)] = V.tuple [vi (pz 5 4 r s), vb true] ∧ vi (Int.ofNat 20) = vi 20) from
  ⟨(congrArg V.tuple (consE rfl (consE (cb o) rfl))), (by rfl)⟩)
  (by kernel_rfl) Y K hK
theorem m39_4_6 (Y : Ys Prop) (r s : Int) (o : rgB 5 4 r = true) (u : 0 ≤ s) (u2 : s < r) (K : V → Mem → Prop) (hK : ∀ mm, K (.int .i64 20) mm) :
   body1 pA (callD pA tb0 la57 5) Y c39 [geo 5 4 r, .int .i64 s, ag false true true false] ⟨0, .leaf⟩ K :=
  walk_of_vc (mono57) (.wait 5 (.fix s10 (vb true) (.wait 4 (.fix s14 (vb false) (.wait 6 (.fix s20 (vb false) .nil))))))
  (show (vb (rgB 5 4 r) = vb true ∧ vb (ltI s 0) = vb false ∧ vb (nB (ltI s r)) = vb false ∧ vi (Int.ofNat 20) = vi 20) from
  ⟨(cb o), (cb (ltF rfl rfl (m39_n3_o0 s u))), (cb (congrArg Bool.not (ltT rfl rfl (m39_4_0_o1 r s o u u2)))), (by rfl)⟩)
  (by kernel_rfl) Y K hK
theorem m30_4_7 (Y : Ys Prop) (r s : Int) (o : roB 5 4 r s = true) (K : V → Mem → Prop) (hK : ∀ mm, K (.int .i64 0) mm) :
   body1 pA (callD pA tb0 la3 5) Y c30 [geo 5 4 r, .int .i64 s, ag true true true false] ⟨0, .leaf⟩ K :=
  walk_of_vc (mono3) (.wait 6 (.fix s14 (V.tuple [vi (pz 5 4 r s), vb true]) .nil))
  (show (V.tuple [vi (pz 5 4 r s), vb (roB 5 4 r s)] = V.tuple [vi (pz 5 4 r s), vb true] ∧ vi (Int.ofNat 0) = vi 0) from
  ⟨(congrArg V.tuple (consE rfl (consE (cb o) rfl))), (by rfl)⟩)
  (by kernel_rfl) Y K hK
theorem m39_4_7 (Y : Ys Prop) (r s : Int) (o : rgB 5 4 r = true) (u : 0 ≤ s) (u2 : s < r) (K : V → Mem → Prop) (hK : ∀ mm, K (.int .i64 0) mm) :
   body1 pA (callD pA tb0 la57 5) Y c39 [geo 5 4 r, .int .i64 s, ag true true true false] ⟨0, .leaf⟩ K :=
  walk_of_vc (mono57) (.wait 5 (.fix s10 (vb true) (.wait 4 (.fix s14 (vb false) (.wait 6 (.fix s20 (vb false) .nil))))))
  (show (vb (rgB 5 4 r) = vb true ∧ vb (ltI s 0) = vb false ∧ vb (nB (ltI s r)) = vb false ∧ vi (Int.ofNat 0) = vi 0) from
  ⟨(cb o), (cb (ltF rfl rfl (m39_n3_o0 s u))), (cb (congrArg Bool.not (ltT rfl rfl (m39_4_0_o1 r s o u u2)))), (by rfl)⟩)
  (by kernel_rfl) Y K hK
theorem m30_4_8 (Y : Ys Prop) (r s : Int) (o : roB 5 4 r s = true) (K : V → Mem → Prop) (hK : ∀ mm, K (.int .i64 20) mm) :
   body1 pA (callD pA tb0 la3 5) Y c30 [geo 5 4 r, .int .i64 s, ag false false false true] ⟨0, .leaf⟩ K :=
  walk_of_vc (mono3) (.wait 6 (.fix s14 (V.tuple [vi (pz 5 4 r s), vb true]) .nil))
  (show (V.tuple [vi (pz 5 4 r s), vb (roB 5 4 r s)] = V.tuple [vi (pz 5 4 r s), vb true] ∧ vi (Int.ofNat 20) = vi 20) from
  ⟨(congrArg V.tuple (consE rfl (consE (cb o) rfl))), (by rfl)⟩)
  (by kernel_rfl) Y K hK
theorem m39_4_8 (Y : Ys Prop) (r s : Int) (o : rgB 5 4 r = true) (u : 0 ≤ s) (u2 : s < r) (K : V → Mem → Prop) (hK : ∀ mm, K (.int .i64 20) mm) :
   body1 pA (callD pA tb0 la57 5) Y c39 [geo 5 4 r, .int .i64 s, ag false false false true] ⟨0, .leaf⟩ K :=
  walk_of_vc (mono57) (.wait 5 (.fix s10 (vb true) (.wait 4 (.fix s14 (vb false) (.wait 6 (.fix s20 (vb false) .nil))))))
  (show (vb (rgB 5 4 r) = vb true ∧ vb (ltI s 0) = vb false ∧ vb (nB (ltI s r)) = vb false ∧ vi (Int.ofNat 20) = vi 20) from
  ⟨(cb o), (cb (ltF rfl rfl (m39_n3_o0 s u))), (cb (congrArg Bool.not (ltT rfl rfl (m39_4_0_o1 r s o u u2)))), (by rfl)⟩)
  (by kernel_rfl) Y K hK
theorem m30_4_9 (Y : Ys Prop) (r s : Int) (o : roB 5 4 r s = true) (K : V → Mem → Prop) (hK : ∀ mm, K (.int .i64 20) mm) :
   body1 pA (callD pA tb0 la3 5) Y c30 [geo 5 4 r, .int .i64 s, ag true false false true] ⟨0, .leaf⟩ K :=
  walk_of_vc (mono3) (.wait 6 (.fix s14 (V.tuple [vi (pz 5 4 r s), vb true]) .nil))
  (show (V.tuple [vi (pz 5 4 r s), vb (roB 5 4 r s)] = V.tuple [vi (pz 5 4 r s), vb true] ∧ vi (Int.ofNat 20) = vi 20) from
  ⟨(congrArg V.tuple (consE rfl (consE (cb o) rfl))), (by rfl)⟩)
  (by kernel_rfl) Y K hK
theorem m39_4_9 (Y : Ys Prop) (r s : Int) (o : rgB 5 4 r = true) (u : 0 ≤ s) (u2 : s < r) (K : V → Mem → Prop) (hK : ∀ mm, K (.int .i64 20) mm) :
   body1 pA (callD pA tb0 la57 5) Y c39 [geo 5 4 r, .int .i64 s, ag true false false true] ⟨0, .leaf⟩ K :=
  walk_of_vc (mono57) (.wait 5 (.fix s10 (vb true) (.wait 4 (.fix s14 (vb false) (.wait 6 (.fix s20 (vb false) .nil))))))
  (show (vb (rgB 5 4 r) = vb true ∧ vb (ltI s 0) = vb false ∧ vb (nB (ltI s r)) = vb false ∧ vi (Int.ofNat 20) = vi 20) from
  ⟨(cb o), (cb (ltF rfl rfl (m39_n3_o0 s u))), (cb (congrArg Bool.not (ltT rfl rfl (m39_4_0_o1 r s o u u2)))), (by rfl)⟩)
  (by kernel_rfl) Y K hK
theorem m30_4_10 (Y : Ys Prop) (r s : Int) (o : roB 5 4 r s = true) (K : V → Mem → Prop) (hK : ∀ mm, K (.int .i64 20) mm) :
   body1 pA (callD pA tb0 la3 5) Y c30 [geo 5 4 r, .int .i64 s, ag false true false true] ⟨0, .leaf⟩ K :=
  walk_of_vc (mono3) (.wait 6 (.fix s14 (V.tuple [vi (pz 5 4 r s), vb true]) .nil))
  (show (V.tuple [vi (pz 5 4 r s), vb (roB 5 4 r s)] = V.tuple [vi (pz 5 4 r s), vb true] ∧ vi (Int.ofNat 20) = vi 20) from
  ⟨(congrArg V.tuple (consE rfl (consE (cb o) rfl))), (by rfl)⟩)
  (by kernel_rfl) Y K hK
theorem m39_4_10 (Y : Ys Prop) (r s : Int) (o : rgB 5 4 r = true) (u : 0 ≤ s) (u2 : s < r) (K : V → Mem → Prop) (hK : ∀ mm, K (.int .i64 20) mm) :
   body1 pA (callD pA tb0 la57 5) Y c39 [geo 5 4 r, .int .i64 s, ag false true false true] ⟨0, .leaf⟩ K :=
  walk_of_vc (mono57) (.wait 5 (.fix s10 (vb true) (.wait 4 (.fix s14 (vb false) (.wait 6 (.fix s20 (vb false) .nil))))))
  (show (vb (rgB 5 4 r) = vb true ∧ vb (ltI s 0) = vb false ∧ vb (nB (ltI s r)) = vb false ∧ vi (Int.ofNat 20) = vi 20) from
  ⟨(cb o), (cb (ltF rfl rfl (m39_n3_o0 s u))), (cb (congrArg Bool.not (ltT rfl rfl (m39_4_0_o1 r s o u u2)))), (by rfl)⟩)
  (by kernel_rfl) Y K hK
theorem m30_4_11 (Y : Ys Prop) (r s : Int) (o : roB 5 4 r s = true) (K : V → Mem → Prop) (hK : ∀ mm, K (.int .i64 0) mm) :
   body1 pA (callD pA tb0 la3 5) Y c30 [geo 5 4 r, .int .i64 s, ag true true false true] ⟨0, .leaf⟩ K :=
  walk_of_vc (mono3) (.wait 6 (.fix s14 (V.tuple [vi (pz 5 4 r s), vb true]) .nil))
  (show (V.tuple [vi (pz 5 4 r s), vb (roB 5 4 r s)] = V.tuple [vi (pz 5 4 r s), vb true] ∧ vi (Int.ofNat 0) = vi 0) from
  ⟨(congrArg V.tuple (consE rfl (consE (cb o) rfl))), (by rfl)⟩)
  (by kernel_rfl) Y K hK
theorem m39_4_11 (Y : Ys Prop) (r s : Int) (o : rgB 5 4 r = true) (u : 0 ≤ s) (u2 : s < r) (K : V → Mem → Prop) (hK : ∀ mm, K (.int .i64 0) mm) :
   body1 pA (callD pA tb0 la57 5) Y c39 [geo 5 4 r, .int .i64 s, ag true true false true] ⟨0, .leaf⟩ K :=
  walk_of_vc (mono57) (.wait 5 (.fix s10 (vb true) (.wait 4 (.fix s14 (vb false) (.wait 6 (.fix s20 (vb false) .nil))))))
  (show (vb (rgB 5 4 r) = vb true ∧ vb (ltI s 0) = vb false ∧ vb (nB (ltI s r)) = vb false ∧ vi (Int.ofNat 0) = vi 0) from
  ⟨(cb o), (cb (ltF rfl rfl (m39_n3_o0 s u))), (cb (congrArg Bool.not (ltT rfl rfl (m39_4_0_o1 r s o u u2)))), (by rfl)⟩)
  (by kernel_rfl) Y K hK
theorem m30_4_12 (Y : Ys Prop) (r s : Int) (o : roB 5 4 r s = true) (K : V → Mem → Prop) (hK : ∀ mm, K (.int .i64 20) mm) :
   body1 pA (callD pA tb0 la3 5) Y c30 [geo 5 4 r, .int .i64 s, ag false false true true] ⟨0, .leaf⟩ K :=
  walk_of_vc (mono3) (.wait 6 (.fix s14 (V.tuple [vi (pz 5 4 r s), vb true]) .nil))
  (show (V.tuple [vi (pz 5 4 r s), vb (roB 5 4 r s)] = V.tuple [vi (pz 5 4 r s), vb true] ∧ vi (Int.ofNat 20) = vi 20) from
  ⟨(congrArg V.tuple (consE rfl (consE (cb o) rfl))), (by rfl)⟩)
  (by kernel_rfl) Y K hK
theorem m39_4_12 (Y : Ys Prop) (r s : Int) (o : rgB 5 4 r = true) (u : 0 ≤ s) (u2 : s < r) (K : V → Mem → Prop) (hK : ∀ mm, K (.int .i64 20) mm) :
   body1 pA (callD pA tb0 la57 5) Y c39 [geo 5 4 r, .int .i64 s, ag false false true true] ⟨0, .leaf⟩ K :=
  walk_of_vc (mono57) (.wait 5 (.fix s10 (vb true) (.wait 4 (.fix s14 (vb false) (.wait 6 (.fix s20 (vb false) .nil))))))
  (show (vb (rgB 5 4 r) = vb true ∧ vb (ltI s 0) = vb false ∧ vb (nB (ltI s r)) = vb false ∧ vi (Int.ofNat 20) = vi 20) from
  ⟨(cb o), (cb (ltF rfl rfl (m39_n3_o0 s u))), (cb (congrArg Bool.not (ltT rfl rfl (m39_4_0_o1 r s o u u2)))), (by rfl)⟩)
  (by kernel_rfl) Y K hK
theorem m30_4_13 (Y : Ys Prop) (r s : Int) (o : roB 5 4 r s = true) (K : V → Mem → Prop) (hK : ∀ mm, K (.int .i64 0) mm) :
   body1 pA (callD pA tb0 la3 5) Y c30 [geo 5 4 r, .int .i64 s, ag true false true true] ⟨0, .leaf⟩ K :=
  walk_of_vc (mono3) (.wait 6 (.fix s14 (V.tuple [vi (pz 5 4 r s), vb true]) .nil))
  (show (V.tuple [vi (pz 5 4 r s), vb (roB 5 4 r s)] = V.tuple [vi (pz 5 4 r s), vb true] ∧ vi (Int.ofNat 0) = vi 0) from
  ⟨(congrArg V.tuple (consE rfl (consE (cb o) rfl))), (by rfl)⟩)
  (by kernel_rfl) Y K hK
theorem m39_4_13 (Y : Ys Prop) (r s : Int) (o : rgB 5 4 r = true) (u : 0 ≤ s) (u2 : s < r) (K : V → Mem → Prop) (hK : ∀ mm, K (.int .i64 0) mm) :
   body1 pA (callD pA tb0 la57 5) Y c39 [geo 5 4 r, .int .i64 s, ag true false true true] ⟨0, .leaf⟩ K :=
  walk_of_vc (mono57) (.wait 5 (.fix s10 (vb true) (.wait 4 (.fix s14 (vb false) (.wait 6 (.fix s20 (vb false) .nil))))))
  (show (vb (rgB 5 4 r) = vb true ∧ vb (ltI s 0) = vb false ∧ vb (nB (ltI s r)) = vb false ∧ vi (Int.ofNat 0) = vi 0) from
  ⟨(cb o), (cb (ltF rfl rfl (m39_n3_o0 s u))), (cb (congrArg Bool.not (ltT rfl rfl (m39_4_0_o1 r s o u u2)))), (by rfl)⟩)
  (by kernel_rfl) Y K hK
theorem m30_4_14 (Y : Ys Prop) (r s : Int) (o : roB 5 4 r s = true) (K : V → Mem → Prop) (hK : ∀ mm, K (.int .i64 0) mm) :
   body1 pA (callD pA tb0 la3 5) Y c30 [geo 5 4 r, .int .i64 s, ag false true true true] ⟨0, .leaf⟩ K :=
  walk_of_vc (mono3) (.wait 6 (.fix s14 (V.tuple [vi (pz 5 4 r s), vb true]) .nil))
  (show (V.tuple [vi (pz 5 4 r s), vb (roB 5 4 r s)] = V.tuple [vi (pz 5 4 r s), vb true] ∧ vi (Int.ofNat 0) = vi 0) from
  ⟨(congrArg V.tuple (consE rfl (consE (cb o) rfl))), (by rfl)⟩)
  (by kernel_rfl) Y K hK
theorem m39_4_14 (Y : Ys Prop) (r s : Int) (o : rgB 5 4 r = true) (u : 0 ≤ s) (u2 : s < r) (K : V → Mem → Prop) (hK : ∀ mm, K (.int .i64 0) mm) :
   body1 pA (callD pA tb0 la57 5) Y c39 [geo 5 4 r, .int .i64 s, ag false true true true] ⟨0, .leaf⟩ K :=
  walk_of_vc (mono57) (.wait 5 (.fix s10 (vb true) (.wait 4 (.fix s14 (vb false) (.wait 6 (.fix s20 (vb false) .nil))))))
  (show (vb (rgB 5 4 r) = vb true ∧ vb (ltI s 0) = vb false ∧ vb (nB (ltI s r)) = vb false ∧ vi (Int.ofNat 0) = vi 0) from
  ⟨(cb o), (cb (ltF rfl rfl (m39_n3_o0 s u))), (cb (congrArg Bool.not (ltT rfl rfl (m39_4_0_o1 r s o u u2)))), (by rfl)⟩)
  (by kernel_rfl) Y K hK
theorem m30_4_15 (Y : Ys Prop) (r s : Int) (o : roB 5 4 r s = true) (K : V → Mem → Prop) (hK : ∀ mm, K (.int .i64 0) mm) :
   body1 pA (callD pA tb0 la3 5) Y c30 [geo 5 4 r, .int .i64 s, ag true true true true] ⟨0, .leaf⟩ K :=
  walk_of_vc (mono3) (.wait 6 (.fix s14 (V.tuple [vi (pz 5 4 r s), vb true]) .nil))
  (show (V.tuple [vi (pz 5 4 r s), vb (roB 5 4 r s)] = V.tuple [vi (pz 5 4 r s), vb true] ∧ vi (Int.ofNat 0) = vi 0) from
  ⟨(congrArg V.tuple (consE rfl (consE (cb o) rfl))), (by rfl)⟩)
  (by kernel_rfl) Y K hK
theorem m39_4_15 (Y : Ys Prop) (r s : Int) (o : rgB 5 4 r = true) (u : 0 ≤ s) (u2 : s < r) (K : V → Mem → Prop) (hK : ∀ mm, K (.int .i64 0) mm) :
   body1 pA (callD pA tb0 la57 5) Y c39 [geo 5 4 r, .int .i64 s, ag true true true true] ⟨0, .leaf⟩ K :=
  walk_of_vc (mono57) (.wait 5 (.fix s10 (vb true) (.wait 4 (.fix s14 (vb false) (.wait 6 (.fix s20 (vb false) .nil))))))
  (show (vb (rgB 5 4 r) = vb true ∧ vb (ltI s 0) = vb false ∧ vb (nB (ltI s r)) = vb false ∧ vi (Int.ofNat 0) = vi 0) from
  ⟨(cb o), (cb (ltF rfl rfl (m39_n3_o0 s u))), (cb (congrArg Bool.not (ltT rfl rfl (m39_4_0_o1 r s o u u2)))), (by rfl)⟩)
  (by kernel_rfl) Y K hK
noncomputable abbrev g_big_Qa (L : LL) (c : Nat) (ro : Bool) : Con := ⟨[.map 0], [.map (mV L) c ro], .bool true, [.map (mV L) c ro], []⟩
theorem g_big_o0 (L : List (Int × List Nat × Nat)) (h : (20 : Nat) < List.length (mV L)) : (20 : Int) < (↑(List.length (mV L)) : Int) := by omega
theorem g_big (Y : Ys Prop) (L : LL) (c : Nat) (ro : Bool) (h : 20 < List.length (mV L)) :
   body1 pA (callD pA tb0 la0 5) Y c8 (g_big_Qa L c ro).args (memO (g_big_Qa L c ro).pre) (endC (g_big_Qa L c ro)) :=
  walkC_of_vc (C := (g_big_Qa L c ro)) (mono_false) (.wait 4 (.fix s7 (vb true) .nil))
  (show (vb (ltI 20 ↑(List.length (mV L))) = vb true ∧ vb true = vb true ∧ (rR (some (oM (mV L) c ro)) ∧ True) ∧ True) from
  ⟨cb (ltT rfl rfl (g_big_o0 L h)), (by rfl), ⟨(by rfl), trivial⟩, trivial⟩)
  (by kernel_rfl) Y
noncomputable abbrev g_no_Qa (L : LL) (c : Nat) (ro : Bool) : Con := ⟨[.map 0], [.map (mV L) c ro], .bool false, [.map (mV L) c ro], []⟩
noncomputable abbrev g_no_Qb (L : LL) (c : Nat) (ro : Bool) : Mem := memL 2 [(0, oM (mV L) c ro), (1, oI (some 0) c [] c)]
noncomputable abbrev g_no_Qc (L : LL) (c : Nat) (ro : Bool) (z0 : EnL) : Mem := memL 2 [(0, oM (mV L) c ro), (1, oI (some 0) c (stamps z0) c)]
noncomputable abbrev g_no_Qd (L : LL) (c : Nat) (ro : Bool) : Prop := LoopOk3 (callD pA tb0 la0 5) c8l0 (Ex.exit 0) (g_no_Qb L c ro) [(s9, V.ptr 1 0)] (fun V0 => List.Perm V0 (mV L)) (fun V0 => (g_no_Qc L c ro V0)) fun V0 => []
theorem g_no_o0 (L : List (Int × List Nat × Nat)) (h : List.length (mV L) ≤ (20 : Nat)) : ¬(20 : Int) < (↑(List.length (mV L)) : Int) := by omega
theorem g_no (Y : Ys Prop) (L : LL) (c : Nat) (ro : Bool) (h : List.length (mV L) ≤ 20) (H : g_no_Qd L c ro) :
   body1 pA (callD pA tb0 la0 5) Y c8 (g_no_Qa L c ro).args (memO (g_no_Qa L c ro).pre) (endC (g_no_Qa L c ro)) :=
  walkC_of_vc (C := (g_no_Qa L c ro)) (mono_false) (.wait 4 (.fix s7 (vb false) (.wait 3 (.inv3 (Ex.exit 0) (g_no_Qb L c ro) ([(s9, V.ptr 1 0)]) (fun v => List.Perm v (mV L)) (fun v => (g_no_Qc L c ro v)) (fun v => []) fun xv0 => .nil))))
  (show (vb (ltI 20 ↑(List.length (mV L))) = vb false ∧ rR (g_no_Qb L c ro) ∧ (V.ptr 1 0 = V.ptr 1 0 ∧ True) ∧ (g_no_Qd L c ro) ∧ (∀ (xv0 : EnL), List.Perm xv0 (mV L) → ∀ (T0 : Slots), allS T0 ([]) → (vb false = vb false ∧ (rR (some (oM (mV L) c ro)) ∧ True) ∧ True))) from
  ⟨cb (ltF rfl rfl (g_no_o0 L h)), rfl, ⟨rfl, trivial⟩, H, fun xv0 hq0 T0 hj0 => ⟨(by rfl), ⟨(by rfl), trivial⟩, trivial⟩⟩)
  (by kernel_rfl) Y
noncomputable abbrev g_yes_Qa (L : LL) (c : Nat) (ro : Bool) : Prop := LoopOk3 (callD pA tb0 la0 5) c8l0 Ex.ret (g_no_Qb L c ro) [(s9, V.ptr 1 0)] (fun V0 => Vis (mV L) V0) (fun V0 => (g_no_Qc L c ro V0)) fun V0 => [(s2, vb true)]
theorem g_yes (Y : Ys Prop) (L : LL) (c : Nat) (ro : Bool) (h : List.length (mV L) ≤ 20) (H : g_yes_Qa L c ro) :
   body1 pA (callD pA tb0 la0 5) Y c8 (g_big_Qa L c ro).args (memO (g_big_Qa L c ro).pre) (endC (g_big_Qa L c ro)) :=
  walkC_of_vc (C := (g_big_Qa L c ro)) (mono_false) (.wait 4 (.fix s7 (vb false) (.wait 3 (.inv3 (Ex.ret) (g_no_Qb L c ro) ([(s9, V.ptr 1 0)]) (fun v => Vis (mV L) v) (fun v => (g_no_Qc L c ro v)) (fun v => [(s2, vb true)]) fun xv0 => .nil))))
  (show (vb (ltI 20 ↑(List.length (mV L))) = vb false ∧ rR (g_no_Qb L c ro) ∧ (V.ptr 1 0 = V.ptr 1 0 ∧ True) ∧ (g_yes_Qa L c ro) ∧ (∀ (xv0 : EnL), Vis (mV L) xv0 → ∀ (T0 : Slots), allS T0 ([(s2, vb true)]) → (vb true = vb true ∧ (rR (some (oM (mV L) c ro)) ∧ True) ∧ True))) from
  ⟨cb (ltF rfl rfl (g_no_o0 L h)), rfl, ⟨rfl, trivial⟩, H, fun xv0 hq0 T0 hj0 => ⟨(by rfl), ⟨(by rfl), trivial⟩, trivial⟩⟩)
  (by kernel_rfl) Y
noncomputable abbrev g_nil_Qa : Con := ⟨[.nilmap], [], .bool false, [], []⟩
theorem g_nil (Y : Ys Prop)  :
   body1 pA (callD pA tb0 la0 5) Y c8 (g_nil_Qa).args (memO (g_nil_Qa).pre) (endC (g_nil_Qa)) :=
  walkC_of_vc (C := (g_nil_Qa)) (mono_false) .nil
  (show (vb false = vb false ∧ True ∧ True) from
  ⟨(by rfl), trivial, trivial⟩)
  (by kernel_rfl) Y
noncomputable abbrev g_s_Qa (L : LL) (c t : Nat) (S : List Nat) (ro : Bool) : Mem := memL 2 [(0, oM (mV L) c ro), (1, oI (some 0) c (S ++ [t]) c)]
theorem g_s_o0 (g : List Nat) (hg : List.length g ≤ (200 : Nat)) : ¬(200 : Int) < (↑(List.length g) : Int) := by omega
theorem g_s (Y : Ys Prop) (L : LL) (c t : Nat) (S : List Nat) (ro : Bool) (n : Int) (g : List Nat) (hE : entryV (List.getLast? (S ++ [t])) (some (AObj.map (mV L) c ro)) c = some (.tuple [.int .i64 n, .str g])) (hg : List.length g ≤ 200) (T : Slots) (hT : allS T [(s9, .ptr 1 0)]) (K : Ex → Slots → Mem → Prop) (hK : ∀ T', allS T' [(s9, .ptr 1 0)] → K (.normal) T' (memL 2 [(0, .map (mV L) c ro), (1, .iter (some 0) c (S ++ [t]) c)])) :
   code pA (callD pA tb0 la0 5) Y c8l0b T (memL 2 [(0, .map (mV L) c ro), (1, .iter (some 0) c (S ++ [t]) c)]) K :=
  code_of_vc (mono_false) (.fix s9 (V.ptr 1 0) (.res (V.tuple [vi n, V.str g]) (.wait 5 (.fix s16 (vb false) .nil))))
  (show (Slots.get T s9 = V.ptr 1 0 ∧ entryV (List.getLast? (S ++ [t])) (some (oM (mV L) c ro)) c = some (V.tuple [vi n, V.str g]) ∧ vb (ltI 200 ↑(List.length g)) = vb false ∧ Ex.normal = Ex.normal ∧ rR (g_s_Qa L c t S ro) ∧ (V.ptr 1 0 = V.ptr 1 0 ∧ True)) from
  ⟨hT.1, hE, cb (ltF rfl rfl (g_s_o0 g hg)), rfl, rfl, ⟨rfl, trivial⟩⟩)
  (by kernel_rfl) Y K hK
theorem g_x_o0 (g : List Nat) (hg : (200 : Nat) < List.length g) : (200 : Int) < (↑(List.length g) : Int) := by omega
theorem g_x (Y : Ys Prop) (L : LL) (c t : Nat) (S : List Nat) (ro : Bool) (n : Int) (g : List Nat) (hE : entryV (List.getLast? (S ++ [t])) (some (AObj.map (mV L) c ro)) c = some (.tuple [.int .i64 n, .str g])) (hg : 200 < List.length g) (T : Slots) (hT : allS T [(s9, .ptr 1 0)]) (K : Ex → Slots → Mem → Prop) (hK : ∀ T', allS T' [(s2, .bool true)] → K (.ret) T' (memL 2 [(0, .map (mV L) c ro), (1, .iter (some 0) c (S ++ [t]) c)])) :
   code pA (callD pA tb0 la0 5) Y c8l0b T (memL 2 [(0, .map (mV L) c ro), (1, .iter (some 0) c (S ++ [t]) c)]) K :=
  code_of_vc (mono_false) (.fix s9 (V.ptr 1 0) (.res (V.tuple [vi n, V.str g]) (.wait 5 (.fix s16 (vb true) .nil))))
  (show (Slots.get T s9 = V.ptr 1 0 ∧ entryV (List.getLast? (S ++ [t])) (some (oM (mV L) c ro)) c = some (V.tuple [vi n, V.str g]) ∧ vb (ltI 200 ↑(List.length g)) = vb true ∧ Ex.ret = Ex.ret ∧ rR (g_s_Qa L c t S ro) ∧ (vb true = vb true ∧ True)) from
  ⟨hT.1, hE, cb (ltT rfl rfl (g_x_o0 g hg)), rfl, rfl, ⟨rfl, trivial⟩⟩)
  (by kernel_rfl) Y K hK
end Go.Proofs.Ytjikaankdnmabaa
