/- Runs of the functions of package row, and of the document's, by script. No condition. -/
import Derived.Test.YtjikaankdnmabaaVD
namespace Go.Proofs.Ytjikaankdnmabaa
open Go Go.AM
set_option maxRecDepth 100000
set_option maxHeartbeats 0
set_option linter.unusedVariables false
theorem xright_o0 (r : Int) (h0 : decide (r < (2 : Int)) = false) (p0 : ¬r < (2 : Int)) (h1 : decide ((64 : Int) < r) = false) (p1 : ¬(64 : Int) < r) : (0 : Int) ≤ r := by omega
theorem xright (Y : Ys Prop) (l m r : Int) (K : V → Mem → Prop) (hK : ∀ mm, K (.bool (rgB l m r)) mm) :
   body1 pA (callD pA tb0 la0 5) Y c57 [geo l m r] ⟨0, .leaf⟩ K :=
  walk_of_vc (mono_false) (.wait 6 (.split s6 (decide (r < 2)) .nil (.wait 5 (.split s11 (decide (64 < r)) .nil (.wait 3 (.fix s14 (vi (r % 2)) (.wait 2 (.split s16 (decide ¬r % 2 = 0) .nil (.wait 4 (.split s19 (decide (l = 1)) .nil (.wait 5 (.split s26 (decide (l = 5)) (.wait 5 (.split s31 (decide ¬m < 3) .nil .nil)) .nil))))))))))))
  (show (vb (ltI r 2) = vb (decide (r < 2)) ∧ ((decide (r < 2)) = true → (vb false = vb (rgB l m r))) ∧ ((decide (r < 2)) = false → (vb (ltI 64 r) = vb (decide (64 < r)) ∧ ((decide (64 < r)) = true → (vb false = vb (rgB l m r))) ∧ ((decide (64 < r)) = false → (vi (Int.tmod r 2) = vi (r % 2) ∧ vb (nB (eqI (r % 2) 0)) = vb (decide ¬r % 2 = 0) ∧ ((decide ¬r % 2 = 0) = true → (vb false = vb (rgB l m r))) ∧ ((decide ¬r % 2 = 0) = false → (vb (eqI l 1) = vb (decide (l = 1)) ∧ ((decide (l = 1)) = true → (vb (eqI m 2) = vb (rgB l m r))) ∧ ((decide (l = 1)) = false → (vb (eqI l 5) = vb (decide (l = 5)) ∧ ((decide (l = 5)) = true → (vb (nB (ltI m 3)) = vb (decide ¬m < 3) ∧ ((decide ¬m < 3) = true → (vb (nB (ltI 4 m)) = vb (rgB l m r))) ∧ ((decide ¬m < 3) = false → (vb false = vb (rgB l m r))))) ∧ ((decide (l = 5)) = false → (vb false = vb (rgB l m r)))))))))))) from
  ⟨cb (ltD rfl rfl), (sT fun p0 => (gF (by unfold rgP; omega))), (fun h0 => have p0 := dF h0; ⟨cb (ltD rfl rfl), (sT fun p1 => (gF (by unfold rgP; omega))), (fun h1 => have p1 := dF h1; ⟨(ci (tmodE rfl rfl (xright_o0 r h0 p0 h1 p1))), cb ((congrArg Bool.not (eqD rfl rfl)).trans (notD _)), (sT fun p2 => (gF (by unfold rgP; omega))), (sF fun p2 => ⟨cb (eqD rfl rfl), (sT fun p3 => (Eq.trans (cb (eqD rfl rfl)) (gD (by unfold rgP; omega)))), (sF fun p3 => ⟨cb (eqD rfl rfl), (sT fun p4 => ⟨cb ((congrArg Bool.not (ltD rfl rfl)).trans (notD _)), (sT fun p5 => (Eq.trans (cb ((congrArg Bool.not (ltD rfl rfl)).trans (notD _))) (gD (by unfold rgP; omega)))), (sF fun p5 => (gF (by unfold rgP; omega)))⟩), (sF fun p4 => (gF (by unfold rgP; omega)))⟩)⟩)⟩)⟩)⟩)
  (by kernel_rfl) Y K hK


theorem m30_n (Y : Ys Prop) (l m r s : Int) (b0 b1 b2 b3 : Bool) (o : roB l m r s = false) (z : pz l m r s = 0) (K : V → Mem → Prop) (hK : ∀ mm, K (.int .i64 1) mm) :
   body1 pA (callD pA tb0 la3 5) Y c30 [geo l m r, .int .i64 s, ag b0 b1 b2 b3] ⟨0, .leaf⟩ K :=
  walk_of_vc (mono3) (.wait 6 (.fix s14 (V.tuple [vi 0, vb false]) .nil))
  (show (V.tuple [vi (pz l m r s), vb (roB l m r s)] = V.tuple [vi 0, vb false] ∧ vi (Int.ofNat 1) = vi 1) from
  ⟨(congrArg V.tuple (consE (ci z) (consE (cb o) rfl))), (by rfl)⟩)
  (by kernel_rfl) Y K hK


theorem m39_n1 (Y : Ys Prop) (l m r s : Int) (b0 b1 b2 b3 : Bool) (o : rgB l m r = false) (K : V → Mem → Prop) (hK : ∀ mm, K (.int .i64 1) mm) :
   body1 pA (callD pA tb0 la57 5) Y c39 [geo l m r, .int .i64 s, ag b0 b1 b2 b3] ⟨0, .leaf⟩ K :=
  walk_of_vc (mono57) (.wait 5 (.fix s10 (vb false) .nil))
  (show (vb (rgB l m r) = vb false ∧ vi (Int.ofNat 1) = vi 1) from
  ⟨(cb o), (by rfl)⟩)
  (by kernel_rfl) Y K hK

theorem m39_n2_o0 (s : Int) (u : s < (0 : Int)) : s < (0 : Int) := by omega
theorem m39_n2 (Y : Ys Prop) (l m r s : Int) (b0 b1 b2 b3 : Bool) (o : rgB l m r = true) (u : s < 0) (K : V → Mem → Prop) (hK : ∀ mm, K (.int .i64 1) mm) :
   body1 pA (callD pA tb0 la57 5) Y c39 [geo l m r, .int .i64 s, ag b0 b1 b2 b3] ⟨0, .leaf⟩ K :=
  walk_of_vc (mono57) (.wait 5 (.fix s10 (vb true) (.wait 4 (.fix s14 (vb true) .nil))))
  (show (vb (rgB l m r) = vb true ∧ vb (ltI s 0) = vb true ∧ vi (Int.ofNat 1) = vi 1) from
  ⟨(cb o), (cb (ltT rfl rfl (m39_n2_o0 s u))), (by rfl)⟩)
  (by kernel_rfl) Y K hK

theorem m39_n3_o0 (s : Int) (u : (0 : Int) ≤ s) : ¬s < (0 : Int) := by omega
theorem m39_n3_o1 (r : Int) (s : Int) (u : (0 : Int) ≤ s) (u2 : r ≤ s) : ¬s < r := by omega
theorem m39_n3 (Y : Ys Prop) (l m r s : Int) (b0 b1 b2 b3 : Bool) (o : rgB l m r = true) (u : 0 ≤ s) (u2 : r ≤ s) (K : V → Mem → Prop) (hK : ∀ mm, K (.int .i64 1) mm) :
   body1 pA (callD pA tb0 la57 5) Y c39 [geo l m r, .int .i64 s, ag b0 b1 b2 b3] ⟨0, .leaf⟩ K :=
  walk_of_vc (mono57) (.wait 5 (.fix s10 (vb true) (.wait 4 (.fix s14 (vb false) (.wait 6 (.fix s20 (vb true) .nil))))))
  (show (vb (rgB l m r) = vb true ∧ vb (ltI s 0) = vb false ∧ vb (nB (ltI s r)) = vb true ∧ vi (Int.ofNat 1) = vi 1) from
  ⟨(cb o), (cb (ltF rfl rfl (m39_n3_o0 s u))), (cb (congrArg Bool.not (ltF rfl rfl (m39_n3_o1 r s u u2)))), (by rfl)⟩)
  (by kernel_rfl) Y K hK


theorem m30_2_0 (Y : Ys Prop) (r s : Int) (b2 : Bool) (b3 : Bool) (o : roB 1 2 r s = true) (K : V → Mem → Prop) (hK : ∀ mm, K (.int .i64 20) mm) :
   body1 pA (callD pA tb0 la3 5) Y c30 [geo 1 2 r, .int .i64 s, ag false false b2 b3] ⟨0, .leaf⟩ K :=
  walk_of_vc (mono3) (.wait 6 (.fix s14 (V.tuple [vi (pz 1 2 r s), vb true]) .nil))
  (show (V.tuple [vi (pz 1 2 r s), vb (roB 1 2 r s)] = V.tuple [vi (pz 1 2 r s), vb true] ∧ vi (Int.ofNat 20) = vi 20) from
  ⟨(congrArg V.tuple (consE rfl (consE (cb o) rfl))), (by rfl)⟩)
  (by kernel_rfl) Y K hK

theorem m39_2_0_o0 (s : Int) (u : (0 : Int) ≤ s) : ¬s < (0 : Int) := by omega
theorem m39_2_0_o1 (r : Int) (s : Int) (o : rgB (1 : Int) (2 : Int) r = true) (u : (0 : Int) ≤ s) (u2 : s < r) : s < r := by omega
theorem m39_2_0 (Y : Ys Prop) (r s : Int) (b2 : Bool) (b3 : Bool) (o : rgB 1 2 r = true) (u : 0 ≤ s) (u2 : s < r) (K : V → Mem → Prop) (hK : ∀ mm, K (.int .i64 20) mm) :
   body1 pA (callD pA tb0 la57 5) Y c39 [geo 1 2 r, .int .i64 s, ag false false b2 b3] ⟨0, .leaf⟩ K :=
  walk_of_vc (mono57) (.wait 5 (.fix s10 (vb true) (.wait 4 (.fix s14 (vb false) (.wait 6 (.fix s20 (vb false) .nil))))))
  (show (vb (rgB 1 2 r) = vb true ∧ vb (ltI s 0) = vb false ∧ vb (nB (ltI s r)) = vb false ∧ vi (Int.ofNat 20) = vi 20) from
  ⟨(cb o), (cb (ltF rfl rfl (m39_2_0_o0 s u))), (cb (congrArg Bool.not (ltT rfl rfl (m39_2_0_o1 r s o u u2)))), (by rfl)⟩)
  (by kernel_rfl) Y K hK


theorem m30_2_1 (Y : Ys Prop) (r s : Int) (b2 : Bool) (b3 : Bool) (o : roB 1 2 r s = true) (K : V → Mem → Prop) (hK : ∀ mm, K (.int .i64 0) mm) :
   body1 pA (callD pA tb0 la3 5) Y c30 [geo 1 2 r, .int .i64 s, ag true false b2 b3] ⟨0, .leaf⟩ K :=
  walk_of_vc (mono3) (.wait 6 (.fix s14 (V.tuple [vi (pz 1 2 r s), vb true]) .nil))
  (show (V.tuple [vi (pz 1 2 r s), vb (roB 1 2 r s)] = V.tuple [vi (pz 1 2 r s), vb true] ∧ vi (Int.ofNat 0) = vi 0) from
  ⟨(congrArg V.tuple (consE rfl (consE (cb o) rfl))), (by rfl)⟩)
  (by kernel_rfl) Y K hK

theorem m39_2_1_o0 (s : Int) (u : (0 : Int) ≤ s) : ¬s < (0 : Int) := by omega
theorem m39_2_1_o1 (r : Int) (s : Int) (o : rgB (1 : Int) (2 : Int) r = true) (u : (0 : Int) ≤ s) (u2 : s < r) : s < r := by omega
theorem m39_2_1 (Y : Ys Prop) (r s : Int) (b2 : Bool) (b3 : Bool) (o : rgB 1 2 r = true) (u : 0 ≤ s) (u2 : s < r) (K : V → Mem → Prop) (hK : ∀ mm, K (.int .i64 0) mm) :
   body1 pA (callD pA tb0 la57 5) Y c39 [geo 1 2 r, .int .i64 s, ag true false b2 b3] ⟨0, .leaf⟩ K :=
  walk_of_vc (mono57) (.wait 5 (.fix s10 (vb true) (.wait 4 (.fix s14 (vb false) (.wait 6 (.fix s20 (vb false) .nil))))))
  (show (vb (rgB 1 2 r) = vb true ∧ vb (ltI s 0) = vb false ∧ vb (nB (ltI s r)) = vb false ∧ vi (Int.ofNat 0) = vi 0) from
  ⟨(cb o), (cb (ltF rfl rfl (m39_2_1_o0 s u))), (cb (congrArg Bool.not (ltT rfl rfl (m39_2_1_o1 r s o u u2)))), (by rfl)⟩)
  (by kernel_rfl) Y K hK


theorem m30_2_2 (Y : Ys Prop) (r s : Int) (b2 : Bool) (b3 : Bool) (o : roB 1 2 r s = true) (K : V → Mem → Prop) (hK : ∀ mm, K (.int .i64 0) mm) :
   body1 pA (callD pA tb0 la3 5) Y c30 [geo 1 2 r, .int .i64 s, ag false true b2 b3] ⟨0, .leaf⟩ K :=
  walk_of_vc (mono3) (.wait 6 (.fix s14 (V.tuple [vi (pz 1 2 r s), vb true]) .nil))
  (show (V.tuple [vi (pz 1 2 r s), vb (roB 1 2 r s)] = V.tuple [vi (pz 1 2 r s), vb true] ∧ vi (Int.ofNat 0) = vi 0) from
  ⟨(congrArg V.tuple (consE rfl (consE (cb o) rfl))), (by rfl)⟩)
  (by kernel_rfl) Y K hK

theorem m39_2_2_o0 (s : Int) (u : (0 : Int) ≤ s) : ¬s < (0 : Int) := by omega
theorem m39_2_2_o1 (r : Int) (s : Int) (o : rgB (1 : Int) (2 : Int) r = true) (u : (0 : Int) ≤ s) (u2 : s < r) : s < r := by omega
theorem m39_2_2 (Y : Ys Prop) (r s : Int) (b2 : Bool) (b3 : Bool) (o : rgB 1 2 r = true) (u : 0 ≤ s) (u2 : s < r) (K : V → Mem → Prop) (hK : ∀ mm, K (.int .i64 0) mm) :
   body1 pA (callD pA tb0 la57 5) Y c39 [geo 1 2 r, .int .i64 s, ag false true b2 b3] ⟨0, .leaf⟩ K :=
  walk_of_vc (mono57) (.wait 5 (.fix s10 (vb true) (.wait 4 (.fix s14 (vb false) (.wait 6 (.fix s20 (vb false) .nil))))))
  (show (vb (rgB 1 2 r) = vb true ∧ vb (ltI s 0) = vb false ∧ vb (nB (ltI s r)) = vb false ∧ vi (Int.ofNat 0) = vi 0) from
  ⟨(cb o), (cb (ltF rfl rfl (m39_2_2_o0 s u))), (cb (congrArg Bool.not (ltT rfl rfl (m39_2_2_o1 r s o u u2)))), (by rfl)⟩)
  (by kernel_rfl) Y K hK


theorem m30_2_3 (Y : Ys Prop) (r s : Int) (b2 : Bool) (b3 : Bool) (o : roB 1 2 r s = true) (K : V → Mem → Prop) (hK : ∀ mm, K (.int .i64 0) mm) :
   body1 pA (callD pA tb0 la3 5) Y c30 [geo 1 2 r, .int .i64 s, ag true true b2 b3] ⟨0, .leaf⟩ K :=
  walk_of_vc (mono3) (.wait 6 (.fix s14 (V.tuple [vi (pz 1 2 r s), vb true]) .nil))
  (show (V.tuple [vi (pz 1 2 r s), vb (roB 1 2 r s)] = V.tuple [vi (pz 1 2 r s), vb true] ∧ vi (Int.ofNat 0) = vi 0) from
  ⟨(congrArg V.tuple (consE rfl (consE (cb o) rfl))), (by rfl)⟩)
  (by kernel_rfl) Y K hK

theorem m39_2_3_o0 (s : Int) (u : (0 : Int) ≤ s) : ¬s < (0 : Int) := by omega
theorem m39_2_3_o1 (r : Int) (s : Int) (o : rgB (1 : Int) (2 : Int) r = true) (u : (0 : Int) ≤ s) (u2 : s < r) : s < r := by omega
theorem m39_2_3 (Y : Ys Prop) (r s : Int) (b2 : Bool) (b3 : Bool) (o : rgB 1 2 r = true) (u : 0 ≤ s) (u2 : s < r) (K : V → Mem → Prop) (hK : ∀ mm, K (.int .i64 0) mm) :
   body1 pA (callD pA tb0 la57 5) Y c39 [geo 1 2 r, .int .i64 s, ag true true b2 b3] ⟨0, .leaf⟩ K :=
  walk_of_vc (mono57) (.wait 5 (.fix s10 (vb true) (.wait 4 (.fix s14 (vb false) (.wait 6 (.fix s20 (vb false) .nil))))))
  (show (vb (rgB 1 2 r) = vb true ∧ vb (ltI s 0) = vb false ∧ vb (nB (ltI s r)) = vb false ∧ vi (Int.ofNat 0) = vi 0) from
  ⟨(cb o), (cb (ltF rfl rfl (m39_2_3_o0 s u))), (cb (congrArg Bool.not (ltT rfl rfl (m39_2_3_o1 r s o u u2)))), (by rfl)⟩)
  (by kernel_rfl) Y K hK


theorem m30_3_0 (Y : Ys Prop) (r s : Int) (b3 : Bool) (o : roB 5 3 r s = true) (K : V → Mem → Prop) (hK : ∀ mm, K (.int .i64 20) mm) :
   body1 pA (callD pA tb0 la3 5) Y c30 [geo 5 3 r, .int .i64 s, ag false false false b3] ⟨0, .leaf⟩ K :=
  walk_of_vc (mono3) (.wait 6 (.fix s14 (V.tuple [vi (pz 5 3 r s), vb true]) .nil))
  (show (V.tuple [vi (pz 5 3 r s), vb (roB 5 3 r s)] = V.tuple [vi (pz 5 3 r s), vb true] ∧ vi (Int.ofNat 20) = vi 20) from
  ⟨(congrArg V.tuple (consE rfl (consE (cb o) rfl))), (by rfl)⟩)
  (by kernel_rfl) Y K hK

theorem m39_3_0_o0 (s : Int) (u : (0 : Int) ≤ s) : ¬s < (0 : Int) := by omega
theorem m39_3_0_o1 (r : Int) (s : Int) (o : rgB (5 : Int) (3 : Int) r = true) (u : (0 : Int) ≤ s) (u2 : s < r) : s < r := by omega
theorem m39_3_0 (Y : Ys Prop) (r s : Int) (b3 : Bool) (o : rgB 5 3 r = true) (u : 0 ≤ s) (u2 : s < r) (K : V → Mem → Prop) (hK : ∀ mm, K (.int .i64 20) mm) :
   body1 pA (callD pA tb0 la57 5) Y c39 [geo 5 3 r, .int .i64 s, ag false false false b3] ⟨0, .leaf⟩ K :=
  walk_of_vc (mono57) (.wait 5 (.fix s10 (vb true) (.wait 4 (.fix s14 (vb false) (.wait 6 (.fix s20 (vb false) .nil))))))
  (show (vb (rgB 5 3 r) = vb true ∧ vb (ltI s 0) = vb false ∧ vb (nB (ltI s r)) = vb false ∧ vi (Int.ofNat 20) = vi 20) from
  ⟨(cb o), (cb (ltF rfl rfl (m39_3_0_o0 s u))), (cb (congrArg Bool.not (ltT rfl rfl (m39_3_0_o1 r s o u u2)))), (by rfl)⟩)
  (by kernel_rfl) Y K hK


theorem m30_3_1 (Y : Ys Prop) (r s : Int) (b3 : Bool) (o : roB 5 3 r s = true) (K : V → Mem → Prop) (hK : ∀ mm, K (.int .i64 20) mm) :
   body1 pA (callD pA tb0 la3 5) Y c30 [geo 5 3 r, .int .i64 s, ag true false false b3] ⟨0, .leaf⟩ K :=
  walk_of_vc (mono3) (.wait 6 (.fix s14 (V.tuple [vi (pz 5 3 r s), vb true]) .nil))
  (show (V.tuple [vi (pz 5 3 r s), vb (roB 5 3 r s)] = V.tuple [vi (pz 5 3 r s), vb true] ∧ vi (Int.ofNat 20) = vi 20) from
  ⟨(congrArg V.tuple (consE rfl (consE (cb o) rfl))), (by rfl)⟩)
  (by kernel_rfl) Y K hK

theorem m39_3_1_o0 (s : Int) (u : (0 : Int) ≤ s) : ¬s < (0 : Int) := by omega
theorem m39_3_1_o1 (r : Int) (s : Int) (o : rgB (5 : Int) (3 : Int) r = true) (u : (0 : Int) ≤ s) (u2 : s < r) : s < r := by omega
theorem m39_3_1 (Y : Ys Prop) (r s : Int) (b3 : Bool) (o : rgB 5 3 r = true) (u : 0 ≤ s) (u2 : s < r) (K : V → Mem → Prop) (hK : ∀ mm, K (.int .i64 20) mm) :
   body1 pA (callD pA tb0 la57 5) Y c39 [geo 5 3 r, .int .i64 s, ag true false false b3] ⟨0, .leaf⟩ K :=
  walk_of_vc (mono57) (.wait 5 (.fix s10 (vb true) (.wait 4 (.fix s14 (vb false) (.wait 6 (.fix s20 (vb false) .nil))))))
  (show (vb (rgB 5 3 r) = vb true ∧ vb (ltI s 0) = vb false ∧ vb (nB (ltI s r)) = vb false ∧ vi (Int.ofNat 20) = vi 20) from
  ⟨(cb o), (cb (ltF rfl rfl (m39_3_1_o0 s u))), (cb (congrArg Bool.not (ltT rfl rfl (m39_3_1_o1 r s o u u2)))), (by rfl)⟩)
  (by kernel_rfl) Y K hK


theorem m30_3_2 (Y : Ys Prop) (r s : Int) (b3 : Bool) (o : roB 5 3 r s = true) (K : V → Mem → Prop) (hK : ∀ mm, K (.int .i64 20) mm) :
   body1 pA (callD pA tb0 la3 5) Y c30 [geo 5 3 r, .int .i64 s, ag false true false b3] ⟨0, .leaf⟩ K :=
  walk_of_vc (mono3) (.wait 6 (.fix s14 (V.tuple [vi (pz 5 3 r s), vb true]) .nil))
  (show (V.tuple [vi (pz 5 3 r s), vb (roB 5 3 r s)] = V.tuple [vi (pz 5 3 r s), vb true] ∧ vi (Int.ofNat 20) = vi 20) from
  ⟨(congrArg V.tuple (consE rfl (consE (cb o) rfl))), (by rfl)⟩)
  (by kernel_rfl) Y K hK

theorem m39_3_2_o0 (s : Int) (u : (0 : Int) ≤ s) : ¬s < (0 : Int) := by omega
theorem m39_3_2_o1 (r : Int) (s : Int) (o : rgB (5 : Int) (3 : Int) r = true) (u : (0 : Int) ≤ s) (u2 : s < r) : s < r := by omega
theorem m39_3_2 (Y : Ys Prop) (r s : Int) (b3 : Bool) (o : rgB 5 3 r = true) (u : 0 ≤ s) (u2 : s < r) (K : V → Mem → Prop) (hK : ∀ mm, K (.int .i64 20) mm) :
   body1 pA (callD pA tb0 la57 5) Y c39 [geo 5 3 r, .int .i64 s, ag false true false b3] ⟨0, .leaf⟩ K :=
  walk_of_vc (mono57) (.wait 5 (.fix s10 (vb true) (.wait 4 (.fix s14 (vb false) (.wait 6 (.fix s20 (vb false) .nil))))))
  (show (vb (rgB 5 3 r) = vb true ∧ vb (ltI s 0) = vb false ∧ vb (nB (ltI s r)) = vb false ∧ vi (Int.ofNat 20) = vi 20) from
  ⟨(cb o), (cb (ltF rfl rfl (m39_3_2_o0 s u))), (cb (congrArg Bool.not (ltT rfl rfl (m39_3_2_o1 r s o u u2)))), (by rfl)⟩)
  (by kernel_rfl) Y K hK


theorem m30_3_3 (Y : Ys Prop) (r s : Int) (b3 : Bool) (o : roB 5 3 r s = true) (K : V → Mem → Prop) (hK : ∀ mm, K (.int .i64 0) mm) :
   body1 pA (callD pA tb0 la3 5) Y c30 [geo 5 3 r, .int .i64 s, ag true true false b3] ⟨0, .leaf⟩ K :=
  walk_of_vc (mono3) (.wait 6 (.fix s14 (V.tuple [vi (pz 5 3 r s), vb true]) .nil))
  (show (V.tuple [vi (pz 5 3 r s), vb (roB 5 3 r s)] = V.tuple [vi (pz 5 3 r s), vb true] ∧ vi (Int.ofNat 0) = vi 0) from
  ⟨(congrArg V.tuple (consE rfl (consE (cb o) rfl))), (by rfl)⟩)
  (by kernel_rfl) Y K hK

theorem m39_3_3_o0 (s : Int) (u : (0 : Int) ≤ s) : ¬s < (0 : Int) := by omega
theorem m39_3_3_o1 (r : Int) (s : Int) (o : rgB (5 : Int) (3 : Int) r = true) (u : (0 : Int) ≤ s) (u2 : s < r) : s < r := by omega
theorem m39_3_3 (Y : Ys Prop) (r s : Int) (b3 : Bool) (o : rgB 5 3 r = true) (u : 0 ≤ s) (u2 : s < r) (K : V → Mem → Prop) (hK : ∀ mm, K (.int .i64 0) mm) :
   body1 pA (callD pA tb0 la57 5) Y c39 [geo 5 3 r, .int .i64 s, ag true true false b3] ⟨0, .leaf⟩ K :=
  walk_of_vc (mono57) (.wait 5 (.fix s10 (vb true) (.wait 4 (.fix s14 (vb false) (.wait 6 (.fix s20 (vb false) .nil))))))
  (show (vb (rgB 5 3 r) = vb true ∧ vb (ltI s 0) = vb false ∧ vb (nB (ltI s r)) = vb false ∧ vi (Int.ofNat 0) = vi 0) from
  ⟨(cb o), (cb (ltF rfl rfl (m39_3_3_o0 s u))), (cb (congrArg Bool.not (ltT rfl rfl (m39_3_3_o1 r s o u u2)))), (by rfl)⟩)
  (by kernel_rfl) Y K hK


theorem m30_3_4 (Y : Ys Prop) (r s : Int) (b3 : Bool) (o : roB 5 3 r s = true) (K : V → Mem → Prop) (hK : ∀ mm, K (.int .i64 20) mm) :
   body1 pA (callD pA tb0 la3 5) Y c30 [geo 5 3 r, .int .i64 s, ag false false true b3] ⟨0, .leaf⟩ K :=
  walk_of_vc (mono3) (.wait 6 (.fix s14 (V.tuple [vi (pz 5 3 r s), vb true]) .nil))
  (show (V.tuple [vi (pz 5 3 r s), vb (roB 5 3 r s)] = V.tuple [vi (pz 5 3 r s), vb true] ∧ vi (Int.ofNat 20) = vi 20) from
  ⟨(congrArg V.tuple (consE rfl (consE (cb o) rfl))), (by rfl)⟩)
  (by kernel_rfl) Y K hK

theorem m39_3_4_o0 (s : Int) (u : (0 : Int) ≤ s) : ¬s < (0 : Int) := by omega
theorem m39_3_4_o1 (r : Int) (s : Int) (o : rgB (5 : Int) (3 : Int) r = true) (u : (0 : Int) ≤ s) (u2 : s < r) : s < r := by omega
theorem m39_3_4 (Y : Ys Prop) (r s : Int) (b3 : Bool) (o : rgB 5 3 r = true) (u : 0 ≤ s) (u2 : s < r) (K : V → Mem → Prop) (hK : ∀ mm, K (.int .i64 20) mm) :
   body1 pA (callD pA tb0 la57 5) Y c39 [geo 5 3 r, .int .i64 s, ag false false true b3] ⟨0, .leaf⟩ K :=
  walk_of_vc (mono57) (.wait 5 (.fix s10 (vb true) (.wait 4 (.fix s14 (vb false) (.wait 6 (.fix s20 (vb false) .nil))))))
  (show (vb (rgB 5 3 r) = vb true ∧ vb (ltI s 0) = vb false ∧ vb (nB (ltI s r)) = vb false ∧ vi (Int.ofNat 20) = vi 20) from
  ⟨(cb o), (cb (ltF rfl rfl (m39_3_4_o0 s u))), (cb (congrArg Bool.not (ltT rfl rfl (m39_3_4_o1 r s o u u2)))), (by rfl)⟩)
  (by kernel_rfl) Y K hK


theorem m30_3_5 (Y : Ys Prop) (r s : Int) (b3 : Bool) (o : roB 5 3 r s = true) (K : V → Mem → Prop) (hK : ∀ mm, K (.int .i64 0) mm) :
   body1 pA (callD pA tb0 la3 5) Y c30 [geo 5 3 r, .int .i64 s, ag true false true b3] ⟨0, .leaf⟩ K :=
  walk_of_vc (mono3) (.wait 6 (.fix s14 (V.tuple [vi (pz 5 3 r s), vb true]) .nil))
  (show (V.tuple [vi (pz 5 3 r s), vb (roB 5 3 r s)] = V.tuple [vi (pz 5 3 r s), vb true] ∧ vi (Int.ofNat 0) = vi 0) from
  ⟨(congrArg V.tuple (consE rfl (consE (cb o) rfl))), (by rfl)⟩)
  (by kernel_rfl) Y K hK

theorem m39_3_5_o0 (s : Int) (u : (0 : Int) ≤ s) : ¬s < (0 : Int) := by omega
theorem m39_3_5_o1 (r : Int) (s : Int) (o : rgB (5 : Int) (3 : Int) r = true) (u : (0 : Int) ≤ s) (u2 : s < r) : s < r := by omega
theorem m39_3_5 (Y : Ys Prop) (r s : Int) (b3 : Bool) (o : rgB 5 3 r = true) (u : 0 ≤ s) (u2 : s < r) (K : V → Mem → Prop) (hK : ∀ mm, K (.int .i64 0) mm) :
   body1 pA (callD pA tb0 la57 5) Y c39 [geo 5 3 r, .int .i64 s, ag true false true b3] ⟨0, .leaf⟩ K :=
  walk_of_vc (mono57) (.wait 5 (.fix s10 (vb true) (.wait 4 (.fix s14 (vb false) (.wait 6 (.fix s20 (vb false) .nil))))))
  (show (vb (rgB 5 3 r) = vb true ∧ vb (ltI s 0) = vb false ∧ vb (nB (ltI s r)) = vb false ∧ vi (Int.ofNat 0) = vi 0) from
  ⟨(cb o), (cb (ltF rfl rfl (m39_3_5_o0 s u))), (cb (congrArg Bool.not (ltT rfl rfl (m39_3_5_o1 r s o u u2)))), (by rfl)⟩)
  (by kernel_rfl) Y K hK


theorem m30_3_6 (Y : Ys Prop) (r s : Int) (b3 : Bool) (o : roB 5 3 r s = true) (K : V → Mem → Prop) (hK : ∀ mm, K (.int .i64 0) mm) :
   body1 pA (callD pA tb0 la3 5) Y c30 [geo 5 3 r, .int .i64 s, ag false true true b3] ⟨0, .leaf⟩ K :=
  walk_of_vc (mono3) (.wait 6 (.fix s14 (V.tuple [vi (pz 5 3 r s), vb true]) .nil))
  (show (V.tuple [vi (pz 5 3 r s), vb (roB 5 3 r s)] = V.tuple [vi (pz 5 3 r s), vb true] ∧ vi (Int.ofNat 0) = vi 0) from
  ⟨(congrArg V.tuple (consE rfl (consE (cb o) rfl))), (by rfl)⟩)
  (by kernel_rfl) Y K hK

theorem m39_3_6_o0 (s : Int) (u : (0 : Int) ≤ s) : ¬s < (0 : Int) := by omega
theorem m39_3_6_o1 (r : Int) (s : Int) (o : rgB (5 : Int) (3 : Int) r = true) (u : (0 : Int) ≤ s) (u2 : s < r) : s < r := by omega
theorem m39_3_6 (Y : Ys Prop) (r s : Int) (b3 : Bool) (o : rgB 5 3 r = true) (u : 0 ≤ s) (u2 : s < r) (K : V → Mem → Prop) (hK : ∀ mm, K (.int .i64 0) mm) :
   body1 pA (callD pA tb0 la57 5) Y c39 [geo 5 3 r, .int .i64 s, ag false true true b3] ⟨0, .leaf⟩ K :=
  walk_of_vc (mono57) (.wait 5 (.fix s10 (vb true) (.wait 4 (.fix s14 (vb false) (.wait 6 (.fix s20 (vb false) .nil))))))
  (show (vb (rgB 5 3 r) = vb true ∧ vb (ltI s 0) = vb false ∧ vb (nB (ltI s r)) = vb false ∧ vi (Int.ofNat 0) = vi 0) from
  ⟨(cb o), (cb (ltF rfl rfl (m39_3_6_o0 s u))), (cb (congrArg Bool.not (ltT rfl rfl (m39_3_6_o1 r s o u u2)))), (by rfl)⟩)
  (by kernel_rfl) Y K hK


theorem m30_3_7 (Y : Ys Prop) (r s : Int) (b3 : Bool) (o : roB 5 3 r s = true) (K : V → Mem → Prop) (hK : ∀ mm, K (.int .i64 0) mm) :
   body1 pA (callD pA tb0 la3 5) Y c30 [geo 5 3 r, .int .i64 s, ag true true true b3] ⟨0, .leaf⟩ K :=
  walk_of_vc (mono3) (.wait 6 (.fix s14 (V.tuple [vi (pz 5 3 r s), vb true]) .nil))
  (show (V.tuple [vi (pz 5 3 r s), vb (roB 5 3 r s)] = V.tuple [vi (pz 5 3 r s), vb true] ∧ vi (Int.ofNat 0) = vi 0) from
  ⟨(congrArg V.tuple (consE rfl (consE (cb o) rfl))), (by rfl)⟩)
  (by kernel_rfl) Y K hK

theorem m39_3_7_o0 (s : Int) (u : (0 : Int) ≤ s) : ¬s < (0 : Int) := by omega
theorem m39_3_7_o1 (r : Int) (s : Int) (o : rgB (5 : Int) (3 : Int) r = true) (u : (0 : Int) ≤ s) (u2 : s < r) : s < r := by omega
theorem m39_3_7 (Y : Ys Prop) (r s : Int) (b3 : Bool) (o : rgB 5 3 r = true) (u : 0 ≤ s) (u2 : s < r) (K : V → Mem → Prop) (hK : ∀ mm, K (.int .i64 0) mm) :
   body1 pA (callD pA tb0 la57 5) Y c39 [geo 5 3 r, .int .i64 s, ag true true true b3] ⟨0, .leaf⟩ K :=
  walk_of_vc (mono57) (.wait 5 (.fix s10 (vb true) (.wait 4 (.fix s14 (vb false) (.wait 6 (.fix s20 (vb false) .nil))))))
  (show (vb (rgB 5 3 r) = vb true ∧ vb (ltI s 0) = vb false ∧ vb (nB (ltI s r)) = vb false ∧ vi (Int.ofNat 0) = vi 0) from
  ⟨(cb o), (cb (ltF rfl rfl (m39_3_7_o0 s u))), (cb (congrArg Bool.not (ltT rfl rfl (m39_3_7_o1 r s o u u2)))), (by rfl)⟩)
  (by kernel_rfl) Y K hK


theorem m30_4_0 (Y : Ys Prop) (r s : Int) (o : roB 5 4 r s = true) (K : V → Mem → Prop) (hK : ∀ mm, K (.int .i64 20) mm) :
   body1 pA (callD pA tb0 la3 5) Y c30 [geo 5 4 r, .int .i64 s, ag false false false false] ⟨0, .leaf⟩ K :=
  walk_of_vc (mono3) (.wait 6 (.fix s14 (V.tuple [vi (pz 5 4 r s), vb true]) .nil))
  (show (V.tuple [vi (pz 5 4 r s), vb (roB 5 4 r s)] = V.tuple [vi (pz 5 4 r s), vb true] ∧ vi (Int.ofNat 20) = vi 20) from
  ⟨(congrArg V.tuple (consE rfl (consE (cb o) rfl))), (by rfl)⟩)
  (by kernel_rfl) Y K hK

theorem m39_4_0_o0 (s : Int) (u : (0 : Int) ≤ s) : ¬s < (0 : Int) := by omega
theorem m39_4_0_o1 (r : Int) (s : Int) (o : rgB (5 : Int) (4 : Int) r = true) (u : (0 : Int) ≤ s) (u2 : s < r) : s < r := by omega
theorem m39_4_0 (Y : Ys Prop) (r s : Int) (o : rgB 5 4 r = true) (u : 0 ≤ s) (u2 : s < r) (K : V → Mem → Prop) (hK : ∀ mm, K (.int .i64 20) mm) :
   body1 pA (callD pA tb0 la57 5) Y c39 [geo 5 4 r, .int .i64 s, ag false false false false] ⟨0, .leaf⟩ K :=
  walk_of_vc (mono57) (.wait 5 (.fix s10 (vb true) (.wait 4 (.fix s14 (vb false) (.wait 6 (.fix s20 (vb false) .nil))))))
  (show (vb (rgB 5 4 r) = vb true ∧ vb (ltI s 0) = vb false ∧ vb (nB (ltI s r)) = vb false ∧ vi (Int.ofNat 20) = vi 20) from
  ⟨(cb o), (cb (ltF rfl rfl (m39_4_0_o0 s u))), (cb (congrArg Bool.not (ltT rfl rfl (m39_4_0_o1 r s o u u2)))), (by rfl)⟩)
  (by kernel_rfl) Y K hK


theorem m30_4_1 (Y : Ys Prop) (r s : Int) (o : roB 5 4 r s = true) (K : V → Mem → Prop) (hK : ∀ mm, K (.int .i64 20) mm) :
   body1 pA (callD pA tb0 la3 5) Y c30 [geo 5 4 r, .int .i64 s, ag true false false false] ⟨0, .leaf⟩ K :=
  walk_of_vc (mono3) (.wait 6 (.fix s14 (V.tuple [vi (pz 5 4 r s), vb true]) .nil))
  (show (V.tuple [vi (pz 5 4 r s), vb (roB 5 4 r s)] = V.tuple [vi (pz 5 4 r s), vb true] ∧ vi (Int.ofNat 20) = vi 20) from
  ⟨(congrArg V.tuple (consE rfl (consE (cb o) rfl))), (by rfl)⟩)
  (by kernel_rfl) Y K hK

theorem m39_4_1_o0 (s : Int) (u : (0 : Int) ≤ s) : ¬s < (0 : Int) := by omega
theorem m39_4_1_o1 (r : Int) (s : Int) (o : rgB (5 : Int) (4 : Int) r = true) (u : (0 : Int) ≤ s) (u2 : s < r) : s < r := by omega
theorem m39_4_1 (Y : Ys Prop) (r s : Int) (o : rgB 5 4 r = true) (u : 0 ≤ s) (u2 : s < r) (K : V → Mem → Prop) (hK : ∀ mm, K (.int .i64 20) mm) :
   body1 pA (callD pA tb0 la57 5) Y c39 [geo 5 4 r, .int .i64 s, ag true false false false] ⟨0, .leaf⟩ K :=
  walk_of_vc (mono57) (.wait 5 (.fix s10 (vb true) (.wait 4 (.fix s14 (vb false) (.wait 6 (.fix s20 (vb false) .nil))))))
  (show (vb (rgB 5 4 r) = vb true ∧ vb (ltI s 0) = vb false ∧ vb (nB (ltI s r)) = vb false ∧ vi (Int.ofNat 20) = vi 20) from
  ⟨(cb o), (cb (ltF rfl rfl (m39_4_1_o0 s u))), (cb (congrArg Bool.not (ltT rfl rfl (m39_4_1_o1 r s o u u2)))), (by rfl)⟩)
  (by kernel_rfl) Y K hK


theorem m30_4_2 (Y : Ys Prop) (r s : Int) (o : roB 5 4 r s = true) (K : V → Mem → Prop) (hK : ∀ mm, K (.int .i64 20) mm) :
   body1 pA (callD pA tb0 la3 5) Y c30 [geo 5 4 r, .int .i64 s, ag false true false false] ⟨0, .leaf⟩ K :=
  walk_of_vc (mono3) (.wait 6 (.fix s14 (V.tuple [vi (pz 5 4 r s), vb true]) .nil))
  (show (V.tuple [vi (pz 5 4 r s), vb (roB 5 4 r s)] = V.tuple [vi (pz 5 4 r s), vb true] ∧ vi (Int.ofNat 20) = vi 20) from
  ⟨(congrArg V.tuple (consE rfl (consE (cb o) rfl))), (by rfl)⟩)
  (by kernel_rfl) Y K hK

theorem m39_4_2_o0 (s : Int) (u : (0 : Int) ≤ s) : ¬s < (0 : Int) := by omega
theorem m39_4_2_o1 (r : Int) (s : Int) (o : rgB (5 : Int) (4 : Int) r = true) (u : (0 : Int) ≤ s) (u2 : s < r) : s < r := by omega
theorem m39_4_2 (Y : Ys Prop) (r s : Int) (o : rgB 5 4 r = true) (u : 0 ≤ s) (u2 : s < r) (K : V → Mem → Prop) (hK : ∀ mm, K (.int .i64 20) mm) :
   body1 pA (callD pA tb0 la57 5) Y c39 [geo 5 4 r, .int .i64 s, ag false true false false] ⟨0, .leaf⟩ K :=
  walk_of_vc (mono57) (.wait 5 (.fix s10 (vb true) (.wait 4 (.fix s14 (vb false) (.wait 6 (.fix s20 (vb false) .nil))))))
  (show (vb (rgB 5 4 r) = vb true ∧ vb (ltI s 0) = vb false ∧ vb (nB (ltI s r)) = vb false ∧ vi (Int.ofNat 20) = vi 20) from
  ⟨(cb o), (cb (ltF rfl rfl (m39_4_2_o0 s u))), (cb (congrArg Bool.not (ltT rfl rfl (m39_4_2_o1 r s o u u2)))), (by rfl)⟩)
  (by kernel_rfl) Y K hK


theorem m30_4_3 (Y : Ys Prop) (r s : Int) (o : roB 5 4 r s = true) (K : V → Mem → Prop) (hK : ∀ mm, K (.int .i64 20) mm) :
   body1 pA (callD pA tb0 la3 5) Y c30 [geo 5 4 r, .int .i64 s, ag true true false false] ⟨0, .leaf⟩ K :=
  walk_of_vc (mono3) (.wait 6 (.fix s14 (V.tuple [vi (pz 5 4 r s), vb true]) .nil))
  (show (V.tuple [vi (pz 5 4 r s), vb (roB 5 4 r s)] = V.tuple [vi (pz 5 4 r s), vb true] ∧ vi (Int.ofNat 20) = vi 20) from
  ⟨(congrArg V.tuple (consE rfl (consE (cb o) rfl))), (by rfl)⟩)
  (by kernel_rfl) Y K hK

theorem m39_4_3_o0 (s : Int) (u : (0 : Int) ≤ s) : ¬s < (0 : Int) := by omega
theorem m39_4_3_o1 (r : Int) (s : Int) (o : rgB (5 : Int) (4 : Int) r = true) (u : (0 : Int) ≤ s) (u2 : s < r) : s < r := by omega
theorem m39_4_3 (Y : Ys Prop) (r s : Int) (o : rgB 5 4 r = true) (u : 0 ≤ s) (u2 : s < r) (K : V → Mem → Prop) (hK : ∀ mm, K (.int .i64 20) mm) :
   body1 pA (callD pA tb0 la57 5) Y c39 [geo 5 4 r, .int .i64 s, ag true true false false] ⟨0, .leaf⟩ K :=
  walk_of_vc (mono57) (.wait 5 (.fix s10 (vb true) (.wait 4 (.fix s14 (vb false) (.wait 6 (.fix s20 (vb false) .nil))))))
  (show (vb (rgB 5 4 r) = vb true ∧ vb (ltI s 0) = vb false ∧ vb (nB (ltI s r)) = vb false ∧ vi (Int.ofNat 20) = vi 20) from
  ⟨(cb o), (cb (ltF rfl rfl (m39_4_3_o0 s u))), (cb (congrArg Bool.not (ltT rfl rfl (m39_4_3_o1 r s o u u2)))), (by rfl)⟩)
  (by kernel_rfl) Y K hK


theorem m30_4_4 (Y : Ys Prop) (r s : Int) (o : roB 5 4 r s = true) (K : V → Mem → Prop) (hK : ∀ mm, K (.int .i64 20) mm) :
   body1 pA (callD pA tb0 la3 5) Y c30 [geo 5 4 r, .int .i64 s, ag false false true false] ⟨0, .leaf⟩ K :=
  walk_of_vc (mono3) (.wait 6 (.fix s14 (V.tuple [vi (pz 5 4 r s), vb true]) .nil))
  (show (V.tuple [vi (pz 5 4 r s), vb (roB 5 4 r s)] = V.tuple [vi (pz 5 4 r s), vb true] ∧ vi (Int.ofNat 20) = vi 20) from
  ⟨(congrArg V.tuple (consE rfl (consE (cb o) rfl))), (by rfl)⟩)
  (by kernel_rfl) Y K hK

theorem m39_4_4_o0 (s : Int) (u : (0 : Int) ≤ s) : ¬s < (0 : Int) := by omega
theorem m39_4_4_o1 (r : Int) (s : Int) (o : rgB (5 : Int) (4 : Int) r = true) (u : (0 : Int) ≤ s) (u2 : s < r) : s < r := by omega
theorem m39_4_4 (Y : Ys Prop) (r s : Int) (o : rgB 5 4 r = true) (u : 0 ≤ s) (u2 : s < r) (K : V → Mem → Prop) (hK : ∀ mm, K (.int .i64 20) mm) :
   body1 pA (callD pA tb0 la57 5) Y c39 [geo 5 4 r, .int .i64 s, ag false false true false] ⟨0, .leaf⟩ K :=
  walk_of_vc (mono57) (.wait 5 (.fix s10 (vb true) (.wait 4 (.fix s14 (vb false) (.wait 6 (.fix s20 (vb false) .nil))))))
  (show (vb (rgB 5 4 r) = vb true ∧ vb (ltI s 0) = vb false ∧ vb (nB (ltI s r)) = vb false ∧ vi (Int.ofNat 20) = vi 20) from
  ⟨(cb o), (cb (ltF rfl rfl (m39_4_4_o0 s u))), (cb (congrArg Bool.not (ltT rfl rfl (m39_4_4_o1 r s o u u2)))), (by rfl)⟩)
  (by kernel_rfl) Y K hK


theorem m30_4_5 (Y : Ys Prop) (r s : Int) (o : roB 5 4 r s = true) (K : V → Mem → Prop) (hK : ∀ mm, K (.int .i64 20) mm) :
   body1 pA (callD pA tb0 la3 5) Y c30 [geo 5 4 r, .int .i64 s, ag true false true false] ⟨0, .leaf⟩ K :=
  walk_of_vc (mono3) (.wait 6 (.fix s14 (V.tuple [vi (pz 5 4 r s), vb true]) .nil))
  (show (V.tuple [vi (pz 5 4 r s), vb (roB 5 4 r s)] = V.tuple [vi (pz 5 4 r s), vb true] ∧ vi (Int.ofNat 20) = vi 20) from
  ⟨(congrArg V.tuple (consE rfl (consE (cb o) rfl))), (by rfl)⟩)
  (by kernel_rfl) Y K hK

theorem m39_4_5_o0 (s : Int) (u : (0 : Int) ≤ s) : ¬s < (0 : Int) := by omega
theorem m39_4_5_o1 (r : Int) (s : Int) (o : rgB (5 : Int) (4 : Int) r = true) (u : (0 : Int) ≤ s) (u2 : s < r) : s < r := by omega
theorem m39_4_5 (Y : Ys Prop) (r s : Int) (o : rgB 5 4 r = true) (u : 0 ≤ s) (u2 : s < r) (K : V → Mem → Prop) (hK : ∀ mm, K (.int .i64 20) mm) :
   body1 pA (callD pA tb0 la57 5) Y c39 [geo 5 4 r, .int .i64 s, ag true false true false] ⟨0, .leaf⟩ K :=
  walk_of_vc (mono57) (.wait 5 (.fix s10 (vb true) (.wait 4 (.fix s14 (vb false) (.wait 6 (.fix s20 (vb false) .nil))))))
  (show (vb (rgB 5 4 r) = vb true ∧ vb (ltI s 0) = vb false ∧ vb (nB (ltI s r)) = vb false ∧ vi (Int.ofNat 20) = vi 20) from
  ⟨(cb o), (cb (ltF rfl rfl (m39_4_5_o0 s u))), (cb (congrArg Bool.not (ltT rfl rfl (m39_4_5_o1 r s o u u2)))), (by rfl)⟩)
  (by kernel_rfl) Y K hK


theorem m30_4_6 (Y : Ys Prop) (r s : Int) (o : roB 5 4 r s = true) (K : V → Mem → Prop) (hK : ∀ mm, K (.int .i64 20) mm) :
   body1 pA (callD pA tb0 la3 5) Y c30 [geo 5 4 r, .int .i64 s, ag false true true false] ⟨0, .leaf⟩ K :=
  walk_of_vc (mono3) (.wait 6 (.fix s14 (V.tuple [vi (pz 5 4 r s), vb true]) .nil))
  (show (V.tuple [vi (pz 5 4 r s), vb (roB 5 4 r s)] = V.tuple [vi (pz 5 4 r s), vb true] ∧ vi (Int.ofNat 20) = vi 20) from
  ⟨(congrArg V.tuple (consE rfl (consE (cb o) rfl))), (by rfl)⟩)
  (by kernel_rfl) Y K hK

theorem m39_4_6_o0 (s : Int) (u : (0 : Int) ≤ s) : ¬s < (0 : Int) := by omega
theorem m39_4_6_o1 (r : Int) (s : Int) (o : rgB (5 : Int) (4 : Int) r = true) (u : (0 : Int) ≤ s) (u2 : s < r) : s < r := by omega
theorem m39_4_6 (Y : Ys Prop) (r s : Int) (o : rgB 5 4 r = true) (u : 0 ≤ s) (u2 : s < r) (K : V → Mem → Prop) (hK : ∀ mm, K (.int .i64 20) mm) :
   body1 pA (callD pA tb0 la57 5) Y c39 [geo 5 4 r, .int .i64 s, ag false true true false] ⟨0, .leaf⟩ K :=
  walk_of_vc (mono57) (.wait 5 (.fix s10 (vb true) (.wait 4 (.fix s14 (vb false) (.wait 6 (.fix s20 (vb false) .nil))))))
  (show (vb (rgB 5 4 r) = vb true ∧ vb (ltI s 0) = vb false ∧ vb (nB (ltI s r)) = vb false ∧ vi (Int.ofNat 20) = vi 20) from
  ⟨(cb o), (cb (ltF rfl rfl (m39_4_6_o0 s u))), (cb (congrArg Bool.not (ltT rfl rfl (m39_4_6_o1 r s o u u2)))), (by rfl)⟩)
  (by kernel_rfl) Y K hK


theorem m30_4_7 (Y : Ys Prop) (r s : Int) (o : roB 5 4 r s = true) (K : V → Mem → Prop) (hK : ∀ mm, K (.int .i64 0) mm) :
   body1 pA (callD pA tb0 la3 5) Y c30 [geo 5 4 r, .int .i64 s, ag true true true false] ⟨0, .leaf⟩ K :=
  walk_of_vc (mono3) (.wait 6 (.fix s14 (V.tuple [vi (pz 5 4 r s), vb true]) .nil))
  (show (V.tuple [vi (pz 5 4 r s), vb (roB 5 4 r s)] = V.tuple [vi (pz 5 4 r s), vb true] ∧ vi (Int.ofNat 0) = vi 0) from
  ⟨(congrArg V.tuple (consE rfl (consE (cb o) rfl))), (by rfl)⟩)
  (by kernel_rfl) Y K hK

theorem m39_4_7_o0 (s : Int) (u : (0 : Int) ≤ s) : ¬s < (0 : Int) := by omega
theorem m39_4_7_o1 (r : Int) (s : Int) (o : rgB (5 : Int) (4 : Int) r = true) (u : (0 : Int) ≤ s) (u2 : s < r) : s < r := by omega
theorem m39_4_7 (Y : Ys Prop) (r s : Int) (o : rgB 5 4 r = true) (u : 0 ≤ s) (u2 : s < r) (K : V → Mem → Prop) (hK : ∀ mm, K (.int .i64 0) mm) :
   body1 pA (callD pA tb0 la57 5) Y c39 [geo 5 4 r, .int .i64 s, ag true true true false] ⟨0, .leaf⟩ K :=
  walk_of_vc (mono57) (.wait 5 (.fix s10 (vb true) (.wait 4 (.fix s14 (vb false) (.wait 6 (.fix s20 (vb false) .nil))))))
  (show (vb (rgB 5 4 r) = vb true ∧ vb (ltI s 0) = vb false ∧ vb (nB (ltI s r)) = vb false ∧ vi (Int.ofNat 0) = vi 0) from
  ⟨(cb o), (cb (ltF rfl rfl (m39_4_7_o0 s u))), (cb (congrArg Bool.not (ltT rfl rfl (m39_4_7_o1 r s o u u2)))), (by rfl)⟩)
  (by kernel_rfl) Y K hK


theorem m30_4_8 (Y : Ys Prop) (r s : Int) (o : roB 5 4 r s = true) (K : V → Mem → Prop) (hK : ∀ mm, K (.int .i64 20) mm) :
   body1 pA (callD pA tb0 la3 5) Y c30 [geo 5 4 r, .int .i64 s, ag false false false true] ⟨0, .leaf⟩ K :=
  walk_of_vc (mono3) (.wait 6 (.fix s14 (V.tuple [vi (pz 5 4 r s), vb true]) .nil))
  (show (V.tuple [vi (pz 5 4 r s), vb (roB 5 4 r s)] = V.tuple [vi (pz 5 4 r s), vb true] ∧ vi (Int.ofNat 20) = vi 20) from
  ⟨(congrArg V.tuple (consE rfl (consE (cb o) rfl))), (by rfl)⟩)
  (by kernel_rfl) Y K hK

theorem m39_4_8_o0 (s : Int) (u : (0 : Int) ≤ s) : ¬s < (0 : Int) := by omega
theorem m39_4_8_o1 (r : Int) (s : Int) (o : rgB (5 : Int) (4 : Int) r = true) (u : (0 : Int) ≤ s) (u2 : s < r) : s < r := by omega
theorem m39_4_8 (Y : Ys Prop) (r s : Int) (o : rgB 5 4 r = true) (u : 0 ≤ s) (u2 : s < r) (K : V → Mem → Prop) (hK : ∀ mm, K (.int .i64 20) mm) :
   body1 pA (callD pA tb0 la57 5) Y c39 [geo 5 4 r, .int .i64 s, ag false false false true] ⟨0, .leaf⟩ K :=
  walk_of_vc (mono57) (.wait 5 (.fix s10 (vb true) (.wait 4 (.fix s14 (vb false) (.wait 6 (.fix s20 (vb false) .nil))))))
  (show (vb (rgB 5 4 r) = vb true ∧ vb (ltI s 0) = vb false ∧ vb (nB (ltI s r)) = vb false ∧ vi (Int.ofNat 20) = vi 20) from
  ⟨(cb o), (cb (ltF rfl rfl (m39_4_8_o0 s u))), (cb (congrArg Bool.not (ltT rfl rfl (m39_4_8_o1 r s o u u2)))), (by rfl)⟩)
  (by kernel_rfl) Y K hK


theorem m30_4_9 (Y : Ys Prop) (r s : Int) (o : roB 5 4 r s = true) (K : V → Mem → Prop) (hK : ∀ mm, K (.int .i64 20) mm) :
   body1 pA (callD pA tb0 la3 5) Y c30 [geo 5 4 r, .int .i64 s, ag true false false true] ⟨0, .leaf⟩ K :=
  walk_of_vc (mono3) (.wait 6 (.fix s14 (V.tuple [vi (pz 5 4 r s), vb true]) .nil))
  (show (V.tuple [vi (pz 5 4 r s), vb (roB 5 4 r s)] = V.tuple [vi (pz 5 4 r s), vb true] ∧ vi (Int.ofNat 20) = vi 20) from
  ⟨(congrArg V.tuple (consE rfl (consE (cb o) rfl))), (by rfl)⟩)
  (by kernel_rfl) Y K hK

theorem m39_4_9_o0 (s : Int) (u : (0 : Int) ≤ s) : ¬s < (0 : Int) := by omega
theorem m39_4_9_o1 (r : Int) (s : Int) (o : rgB (5 : Int) (4 : Int) r = true) (u : (0 : Int) ≤ s) (u2 : s < r) : s < r := by omega
theorem m39_4_9 (Y : Ys Prop) (r s : Int) (o : rgB 5 4 r = true) (u : 0 ≤ s) (u2 : s < r) (K : V → Mem → Prop) (hK : ∀ mm, K (.int .i64 20) mm) :
   body1 pA (callD pA tb0 la57 5) Y c39 [geo 5 4 r, .int .i64 s, ag true false false true] ⟨0, .leaf⟩ K :=
  walk_of_vc (mono57) (.wait 5 (.fix s10 (vb true) (.wait 4 (.fix s14 (vb false) (.wait 6 (.fix s20 (vb false) .nil))))))
  (show (vb (rgB 5 4 r) = vb true ∧ vb (ltI s 0) = vb false ∧ vb (nB (ltI s r)) = vb false ∧ vi (Int.ofNat 20) = vi 20) from
  ⟨(cb o), (cb (ltF rfl rfl (m39_4_9_o0 s u))), (cb (congrArg Bool.not (ltT rfl rfl (m39_4_9_o1 r s o u u2)))), (by rfl)⟩)
  (by kernel_rfl) Y K hK


theorem m30_4_10 (Y : Ys Prop) (r s : Int) (o : roB 5 4 r s = true) (K : V → Mem → Prop) (hK : ∀ mm, K (.int .i64 20) mm) :
   body1 pA (callD pA tb0 la3 5) Y c30 [geo 5 4 r, .int .i64 s, ag false true false true] ⟨0, .leaf⟩ K :=
  walk_of_vc (mono3) (.wait 6 (.fix s14 (V.tuple [vi (pz 5 4 r s), vb true]) .nil))
  (show (V.tuple [vi (pz 5 4 r s), vb (roB 5 4 r s)] = V.tuple [vi (pz 5 4 r s), vb true] ∧ vi (Int.ofNat 20) = vi 20) from
  ⟨(congrArg V.tuple (consE rfl (consE (cb o) rfl))), (by rfl)⟩)
  (by kernel_rfl) Y K hK

theorem m39_4_10_o0 (s : Int) (u : (0 : Int) ≤ s) : ¬s < (0 : Int) := by omega
theorem m39_4_10_o1 (r : Int) (s : Int) (o : rgB (5 : Int) (4 : Int) r = true) (u : (0 : Int) ≤ s) (u2 : s < r) : s < r := by omega
theorem m39_4_10 (Y : Ys Prop) (r s : Int) (o : rgB 5 4 r = true) (u : 0 ≤ s) (u2 : s < r) (K : V → Mem → Prop) (hK : ∀ mm, K (.int .i64 20) mm) :
   body1 pA (callD pA tb0 la57 5) Y c39 [geo 5 4 r, .int .i64 s, ag false true false true] ⟨0, .leaf⟩ K :=
  walk_of_vc (mono57) (.wait 5 (.fix s10 (vb true) (.wait 4 (.fix s14 (vb false) (.wait 6 (.fix s20 (vb false) .nil))))))
  (show (vb (rgB 5 4 r) = vb true ∧ vb (ltI s 0) = vb false ∧ vb (nB (ltI s r)) = vb false ∧ vi (Int.ofNat 20) = vi 20) from
  ⟨(cb o), (cb (ltF rfl rfl (m39_4_10_o0 s u))), (cb (congrArg Bool.not (ltT rfl rfl (m39_4_10_o1 r s o u u2)))), (by rfl)⟩)
  (by kernel_rfl) Y K hK


theorem m30_4_11 (Y : Ys Prop) (r s : Int) (o : roB 5 4 r s = true) (K : V → Mem → Prop) (hK : ∀ mm, K (.int .i64 0) mm) :
   body1 pA (callD pA tb0 la3 5) Y c30 [geo 5 4 r, .int .i64 s, ag true true false true] ⟨0, .leaf⟩ K :=
  walk_of_vc (mono3) (.wait 6 (.fix s14 (V.tuple [vi (pz 5 4 r s), vb true]) .nil))
  (show (V.tuple [vi (pz 5 4 r s), vb (roB 5 4 r s)] = V.tuple [vi (pz 5 4 r s), vb true] ∧ vi (Int.ofNat 0) = vi 0) from
  ⟨(congrArg V.tuple (consE rfl (consE (cb o) rfl))), (by rfl)⟩)
  (by kernel_rfl) Y K hK

theorem m39_4_11_o0 (s : Int) (u : (0 : Int) ≤ s) : ¬s < (0 : Int) := by omega
theorem m39_4_11_o1 (r : Int) (s : Int) (o : rgB (5 : Int) (4 : Int) r = true) (u : (0 : Int) ≤ s) (u2 : s < r) : s < r := by omega
theorem m39_4_11 (Y : Ys Prop) (r s : Int) (o : rgB 5 4 r = true) (u : 0 ≤ s) (u2 : s < r) (K : V → Mem → Prop) (hK : ∀ mm, K (.int .i64 0) mm) :
   body1 pA (callD pA tb0 la57 5) Y c39 [geo 5 4 r, .int .i64 s, ag true true false true] ⟨0, .leaf⟩ K :=
  walk_of_vc (mono57) (.wait 5 (.fix s10 (vb true) (.wait 4 (.fix s14 (vb false) (.wait 6 (.fix s20 (vb false) .nil))))))
  (show (vb (rgB 5 4 r) = vb true ∧ vb (ltI s 0) = vb false ∧ vb (nB (ltI s r)) = vb false ∧ vi (Int.ofNat 0) = vi 0) from
  ⟨(cb o), (cb (ltF rfl rfl (m39_4_11_o0 s u))), (cb (congrArg Bool.not (ltT rfl rfl (m39_4_11_o1 r s o u u2)))), (by rfl)⟩)
  (by kernel_rfl) Y K hK


theorem m30_4_12 (Y : Ys Prop) (r s : Int) (o : roB 5 4 r s = true) (K : V → Mem → Prop) (hK : ∀ mm, K (.int .i64 20) mm) :
   body1 pA (callD pA tb0 la3 5) Y c30 [geo 5 4 r, .int .i64 s, ag false false true true] ⟨0, .leaf⟩ K :=
  walk_of_vc (mono3) (.wait 6 (.fix s14 (V.tuple [vi (pz 5 4 r s), vb true]) .nil))
  (show (V.tuple [vi (pz 5 4 r s), vb (roB 5 4 r s)] = V.tuple [vi (pz 5 4 r s), vb true] ∧ vi (Int.ofNat 20) = vi 20) from
  ⟨(congrArg V.tuple (consE rfl (consE (cb o) rfl))), (by rfl)⟩)
  (by kernel_rfl) Y K hK

theorem m39_4_12_o0 (s : Int) (u : (0 : Int) ≤ s) : ¬s < (0 : Int) := by omega
theorem m39_4_12_o1 (r : Int) (s : Int) (o : rgB (5 : Int) (4 : Int) r = true) (u : (0 : Int) ≤ s) (u2 : s < r) : s < r := by omega
theorem m39_4_12 (Y : Ys Prop) (r s : Int) (o : rgB 5 4 r = true) (u : 0 ≤ s) (u2 : s < r) (K : V → Mem → Prop) (hK : ∀ mm, K (.int .i64 20) mm) :
   body1 pA (callD pA tb0 la57 5) Y c39 [geo 5 4 r, .int .i64 s, ag false false true true] ⟨0, .leaf⟩ K :=
  walk_of_vc (mono57) (.wait 5 (.fix s10 (vb true) (.wait 4 (.fix s14 (vb false) (.wait 6 (.fix s20 (vb false) .nil))))))
  (show (vb (rgB 5 4 r) = vb true ∧ vb (ltI s 0) = vb false ∧ vb (nB (ltI s r)) = vb false ∧ vi (Int.ofNat 20) = vi 20) from
  ⟨(cb o), (cb (ltF rfl rfl (m39_4_12_o0 s u))), (cb (congrArg Bool.not (ltT rfl rfl (m39_4_12_o1 r s o u u2)))), (by rfl)⟩)
  (by kernel_rfl) Y K hK


theorem m30_4_13 (Y : Ys Prop) (r s : Int) (o : roB 5 4 r s = true) (K : V → Mem → Prop) (hK : ∀ mm, K (.int .i64 0) mm) :
   body1 pA (callD pA tb0 la3 5) Y c30 [geo 5 4 r, .int .i64 s, ag true false true true] ⟨0, .leaf⟩ K :=
  walk_of_vc (mono3) (.wait 6 (.fix s14 (V.tuple [vi (pz 5 4 r s), vb true]) .nil))
  (show (V.tuple [vi (pz 5 4 r s), vb (roB 5 4 r s)] = V.tuple [vi (pz 5 4 r s), vb true] ∧ vi (Int.ofNat 0) = vi 0) from
  ⟨(congrArg V.tuple (consE rfl (consE (cb o) rfl))), (by rfl)⟩)
  (by kernel_rfl) Y K hK

theorem m39_4_13_o0 (s : Int) (u : (0 : Int) ≤ s) : ¬s < (0 : Int) := by omega
theorem m39_4_13_o1 (r : Int) (s : Int) (o : rgB (5 : Int) (4 : Int) r = true) (u : (0 : Int) ≤ s) (u2 : s < r) : s < r := by omega
theorem m39_4_13 (Y : Ys Prop) (r s : Int) (o : rgB 5 4 r = true) (u : 0 ≤ s) (u2 : s < r) (K : V → Mem → Prop) (hK : ∀ mm, K (.int .i64 0) mm) :
   body1 pA (callD pA tb0 la57 5) Y c39 [geo 5 4 r, .int .i64 s, ag true false true true] ⟨0, .leaf⟩ K :=
  walk_of_vc (mono57) (.wait 5 (.fix s10 (vb true) (.wait 4 (.fix s14 (vb false) (.wait 6 (.fix s20 (vb false) .nil))))))
  (show (vb (rgB 5 4 r) = vb true ∧ vb (ltI s 0) = vb false ∧ vb (nB (ltI s r)) = vb false ∧ vi (Int.ofNat 0) = vi 0) from
  ⟨(cb o), (cb (ltF rfl rfl (m39_4_13_o0 s u))), (cb (congrArg Bool.not (ltT rfl rfl (m39_4_13_o1 r s o u u2)))), (by rfl)⟩)
  (by kernel_rfl) Y K hK


theorem m30_4_14 (Y : Ys Prop) (r s : Int) (o : roB 5 4 r s = true) (K : V → Mem → Prop) (hK : ∀ mm, K (.int .i64 0) mm) :
   body1 pA (callD pA tb0 la3 5) Y c30 [geo 5 4 r, .int .i64 s, ag false true true true] ⟨0, .leaf⟩ K :=
  walk_of_vc (mono3) (.wait 6 (.fix s14 (V.tuple [vi (pz 5 4 r s), vb true]) .nil))
  (show (V.tuple [vi (pz 5 4 r s), vb (roB 5 4 r s)] = V.tuple [vi (pz 5 4 r s), vb true] ∧ vi (Int.ofNat 0) = vi 0) from
  ⟨(congrArg V.tuple (consE rfl (consE (cb o) rfl))), (by rfl)⟩)
  (by kernel_rfl) Y K hK

theorem m39_4_14_o0 (s : Int) (u : (0 : Int) ≤ s) : ¬s < (0 : Int) := by omega
theorem m39_4_14_o1 (r : Int) (s : Int) (o : rgB (5 : Int) (4 : Int) r = true) (u : (0 : Int) ≤ s) (u2 : s < r) : s < r := by omega
theorem m39_4_14 (Y : Ys Prop) (r s : Int) (o : rgB 5 4 r = true) (u : 0 ≤ s) (u2 : s < r) (K : V → Mem → Prop) (hK : ∀ mm, K (.int .i64 0) mm) :
   body1 pA (callD pA tb0 la57 5) Y c39 [geo 5 4 r, .int .i64 s, ag false true true true] ⟨0, .leaf⟩ K :=
  walk_of_vc (mono57) (.wait 5 (.fix s10 (vb true) (.wait 4 (.fix s14 (vb false) (.wait 6 (.fix s20 (vb false) .nil))))))
  (show (vb (rgB 5 4 r) = vb true ∧ vb (ltI s 0) = vb false ∧ vb (nB (ltI s r)) = vb false ∧ vi (Int.ofNat 0) = vi 0) from
  ⟨(cb o), (cb (ltF rfl rfl (m39_4_14_o0 s u))), (cb (congrArg Bool.not (ltT rfl rfl (m39_4_14_o1 r s o u u2)))), (by rfl)⟩)
  (by kernel_rfl) Y K hK


theorem m30_4_15 (Y : Ys Prop) (r s : Int) (o : roB 5 4 r s = true) (K : V → Mem → Prop) (hK : ∀ mm, K (.int .i64 0) mm) :
   body1 pA (callD pA tb0 la3 5) Y c30 [geo 5 4 r, .int .i64 s, ag true true true true] ⟨0, .leaf⟩ K :=
  walk_of_vc (mono3) (.wait 6 (.fix s14 (V.tuple [vi (pz 5 4 r s), vb true]) .nil))
  (show (V.tuple [vi (pz 5 4 r s), vb (roB 5 4 r s)] = V.tuple [vi (pz 5 4 r s), vb true] ∧ vi (Int.ofNat 0) = vi 0) from
  ⟨(congrArg V.tuple (consE rfl (consE (cb o) rfl))), (by rfl)⟩)
  (by kernel_rfl) Y K hK

theorem m39_4_15_o0 (s : Int) (u : (0 : Int) ≤ s) : ¬s < (0 : Int) := by omega
theorem m39_4_15_o1 (r : Int) (s : Int) (o : rgB (5 : Int) (4 : Int) r = true) (u : (0 : Int) ≤ s) (u2 : s < r) : s < r := by omega
theorem m39_4_15 (Y : Ys Prop) (r s : Int) (o : rgB 5 4 r = true) (u : 0 ≤ s) (u2 : s < r) (K : V → Mem → Prop) (hK : ∀ mm, K (.int .i64 0) mm) :
   body1 pA (callD pA tb0 la57 5) Y c39 [geo 5 4 r, .int .i64 s, ag true true true true] ⟨0, .leaf⟩ K :=
  walk_of_vc (mono57) (.wait 5 (.fix s10 (vb true) (.wait 4 (.fix s14 (vb false) (.wait 6 (.fix s20 (vb false) .nil))))))
  (show (vb (rgB 5 4 r) = vb true ∧ vb (ltI s 0) = vb false ∧ vb (nB (ltI s r)) = vb false ∧ vi (Int.ofNat 0) = vi 0) from
  ⟨(cb o), (cb (ltF rfl rfl (m39_4_15_o0 s u))), (cb (congrArg Bool.not (ltT rfl rfl (m39_4_15_o1 r s o u u2)))), (by rfl)⟩)
  (by kernel_rfl) Y K hK

theorem r19_e_o0 (e : Int) (he : e ≠ (0 : Int)) : ¬e = (0 : Int) := by omega
theorem r19_e (Y : Ys Prop) (l m r s x : Int) (b0 b1 b2 b3 : Bool) (e : Int) (he : e ≠ 0) (h : mayE l m r s b0 b1 b2 b3 = e) (K : V → Mem → Prop) (hK : ∀ mm, K (.tuple [.nilslice, .int .i64 e]) mm) :
   body1 pA (callD pA tb0 la30 5) Y c19 [geo l m r, .int .i64 s, ag b0 b1 b2 b3, .int .i64 x] ⟨0, .leaf⟩ K :=
  walk_of_vc (mono30) (.wait 8 (.fix s16 (vi e) (.wait 3 (.fix s18 (vb true) .nil))))
  (show (vi (mayE l m r s b0 b1 b2 b3) = vi e ∧ vb (nB (eqI e 0)) = vb true ∧ V.tuple [V.nilslice, vi e] = V.tuple [V.nilslice, vi e]) from
  ⟨(ci h), cb (congrArg Bool.not (eqF rfl rfl (r19_e_o0 e he))), (by rfl)⟩)
  (by kernel_rfl) Y K hK

theorem r19_lo_o0 (x : Int) (u : x < (0 : Int)) : x < (0 : Int) := by omega
theorem r19_lo (Y : Ys Prop) (l m r s x : Int) (b0 b1 b2 b3 : Bool) (h : mayE l m r s b0 b1 b2 b3 = 0) (u : x < 0) (K : V → Mem → Prop) (hK : ∀ mm, K (.tuple [.nilslice, .int .i64 1]) mm) :
   body1 pA (callD pA tb0 la30 5) Y c19 [geo l m r, .int .i64 s, ag b0 b1 b2 b3, .int .i64 x] ⟨0, .leaf⟩ K :=
  walk_of_vc (mono30) (.wait 8 (.fix s16 (vi 0) (.wait 6 (.fix s21 (vb true) .nil))))
  (show (vi (mayE l m r s b0 b1 b2 b3) = vi 0 ∧ vb (ltI x 0) = vb true ∧ V.tuple [V.nilslice, vi (Int.ofNat 1)] = V.tuple [V.nilslice, vi 1]) from
  ⟨(ci h), (cb (ltT rfl rfl (r19_lo_o0 x u))), (by rfl)⟩)
  (by kernel_rfl) Y K hK

theorem r19_hi_o0 (x : Int) (u : (0 : Int) ≤ x) : ¬x < (0 : Int) := by omega
theorem r19_hi_o1 (m : Int) (x : Int) (u : (0 : Int) ≤ x) (u2 : m ≤ x) : ¬x < m := by omega
theorem r19_hi (Y : Ys Prop) (l m r s x : Int) (b0 b1 b2 b3 : Bool) (h : mayE l m r s b0 b1 b2 b3 = 0) (u : 0 ≤ x) (u2 : m ≤ x) (K : V → Mem → Prop) (hK : ∀ mm, K (.tuple [.nilslice, .int .i64 1]) mm) :
   body1 pA (callD pA tb0 la30 5) Y c19 [geo l m r, .int .i64 s, ag b0 b1 b2 b3, .int .i64 x] ⟨0, .leaf⟩ K :=
  walk_of_vc (mono30) (.wait 8 (.fix s16 (vi 0) (.wait 6 (.fix s21 (vb false) (.wait 5 (.fix s26 (vb true) .nil))))))
  (show (vi (mayE l m r s b0 b1 b2 b3) = vi 0 ∧ vb (ltI x 0) = vb false ∧ vb (nB (ltI x m)) = vb true ∧ V.tuple [V.nilslice, vi (Int.ofNat 1)] = V.tuple [V.nilslice, vi 1]) from
  ⟨(ci h), (cb (ltF rfl rfl (r19_hi_o0 x u))), (cb (congrArg Bool.not (ltF rfl rfl (r19_hi_o1 m x u u2)))), (by rfl)⟩)
  (by kernel_rfl) Y K hK


theorem r19_2_0y (Y : Ys Prop) (r s : Int) (b1 : Bool) (b2 : Bool) (b3 : Bool) (h : mayE 1 2 r s true b1 b2 b3 = 0) :
   body1 pA (callD pA tb0 la30 5) Y c19 [geo 1 2 r, .int .i64 s, ag true b1 b2 b3, .int .i64 0] ⟨0, .leaf⟩ (endL (Lay.new (Hd.slice 1 1) (some [.int .i64 0]) (AObj.cells [.int .i64 0] false))) :=
  walkL_of_vc (mono30) (.wait 8 (.fix s16 (vi 0) .nil))
  (show (vi (mayE 1 2 r s true b1 b2 b3) = vi 0 ∧ V.tuple [V.slice 2 0 1 1 1, vi (Int.ofNat 0)] = layV (Hd.slice 1 1) (some [vi 0]) 2 ∧ some (AObj.cells [vi (Int.ofNat 0)] false) = some (AObj.cells [vi 0] false)) from
  ⟨(ci h), (by exact ⟨rfl, rfl⟩)⟩)
  (by kernel_rfl) Y


theorem r19_2_0n (Y : Ys Prop) (r s : Int) (b1 : Bool) (b2 : Bool) (b3 : Bool) (h : mayE 1 2 r s false b1 b2 b3 = 0) :
   body1 pA (callD pA tb0 la30 5) Y c19 [geo 1 2 r, .int .i64 s, ag false b1 b2 b3, .int .i64 0] ⟨0, .leaf⟩ (endL (Lay.new (Hd.slice 1 1) (some [.int .i64 0]) (AObj.cells [.int .i64 1] false))) :=
  walkL_of_vc (mono30) (.wait 8 (.fix s16 (vi 0) .nil))
  (show (vi (mayE 1 2 r s false b1 b2 b3) = vi 0 ∧ V.tuple [V.slice 3 0 1 1 1, vi (Int.ofNat 0)] = layV (Hd.slice 1 1) (some [vi 0]) 3 ∧ some (AObj.cells [vi (Int.ofNat 1)] false) = some (AObj.cells [vi 1] false)) from
  ⟨(ci h), (by exact ⟨rfl, rfl⟩)⟩)
  (by kernel_rfl) Y


theorem r19_2_1y (Y : Ys Prop) (r s : Int) (b0 : Bool) (b2 : Bool) (b3 : Bool) (h : mayE 1 2 r s b0 true b2 b3 = 0) :
   body1 pA (callD pA tb0 la30 5) Y c19 [geo 1 2 r, .int .i64 s, ag b0 true b2 b3, .int .i64 1] ⟨0, .leaf⟩ (endL (Lay.new (Hd.slice 1 1) (some [.int .i64 0]) (AObj.cells [.int .i64 1] false))) :=
  walkL_of_vc (mono30) (.wait 8 (.fix s16 (vi 0) .nil))
  (show (vi (mayE 1 2 r s b0 true b2 b3) = vi 0 ∧ V.tuple [V.slice 2 0 1 1 1, vi (Int.ofNat 0)] = layV (Hd.slice 1 1) (some [vi 0]) 2 ∧ some (AObj.cells [vi (Int.ofNat 1)] false) = some (AObj.cells [vi 1] false)) from
  ⟨(ci h), (by exact ⟨rfl, rfl⟩)⟩)
  (by kernel_rfl) Y


theorem r19_2_1n (Y : Ys Prop) (r s : Int) (b0 : Bool) (b2 : Bool) (b3 : Bool) (h : mayE 1 2 r s b0 false b2 b3 = 0) :
   body1 pA (callD pA tb0 la30 5) Y c19 [geo 1 2 r, .int .i64 s, ag b0 false b2 b3, .int .i64 1] ⟨0, .leaf⟩ (endL (Lay.new (Hd.slice 1 1) (some [.int .i64 0]) (AObj.cells [.int .i64 0] false))) :=
  walkL_of_vc (mono30) (.wait 8 (.fix s16 (vi 0) .nil))
  (show (vi (mayE 1 2 r s b0 false b2 b3) = vi 0 ∧ V.tuple [V.slice 3 0 1 1 1, vi (Int.ofNat 0)] = layV (Hd.slice 1 1) (some [vi 0]) 3 ∧ some (AObj.cells [vi (Int.ofNat 0)] false) = some (AObj.cells [vi 0] false)) from
  ⟨(ci h), (by exact ⟨rfl, rfl⟩)⟩)
  (by kernel_rfl) Y


theorem r19_3_0y (Y : Ys Prop) (r s : Int) (b1 : Bool) (b2 : Bool) (b3 : Bool) (h : mayE 5 3 r s true b1 b2 b3 = 0) :
   body1 pA (callD pA tb0 la30 5) Y c19 [geo 5 3 r, .int .i64 s, ag true b1 b2 b3, .int .i64 0] ⟨0, .leaf⟩ (endL (Lay.new (Hd.slice 1 1) (some [.int .i64 0]) (AObj.cells [.int .i64 0] false))) :=
  walkL_of_vc (mono30) (.wait 8 (.fix s16 (vi 0) .nil))
  (show (vi (mayE 5 3 r s true b1 b2 b3) = vi 0 ∧ V.tuple [V.slice 2 0 1 1 1, vi (Int.ofNat 0)] = layV (Hd.slice 1 1) (some [vi 0]) 2 ∧ some (AObj.cells [vi (Int.ofNat 0)] false) = some (AObj.cells [vi 0] false)) from
  ⟨(ci h), (by exact ⟨rfl, rfl⟩)⟩)
  (by kernel_rfl) Y


theorem r19_3_0n (Y : Ys Prop) (r s : Int) (b1 : Bool) (b2 : Bool) (b3 : Bool) (h : mayE 5 3 r s false b1 b2 b3 = 0) :
   body1 pA (callD pA tb0 la30 5) Y c19 [geo 5 3 r, .int .i64 s, ag false b1 b2 b3, .int .i64 0] ⟨0, .leaf⟩ (endL (Lay.new (Hd.slice 2 1) (some [.int .i64 0]) (AObj.cells [.int .i64 1, .int .i64 2] false))) :=
  walkL_of_vc (mono30) (.wait 8 (.fix s16 (vi 0) .nil))
  (show (vi (mayE 5 3 r s false b1 b2 b3) = vi 0 ∧ V.tuple [V.slice 5 0 2 2 1, vi (Int.ofNat 0)] = layV (Hd.slice 2 1) (some [vi 0]) 5 ∧ some (AObj.cells [vi (Int.ofNat 1), vi (Int.ofNat 2)] false) = some (AObj.cells [vi 1, vi 2] false)) from
  ⟨(ci h), (by exact ⟨rfl, rfl⟩)⟩)
  (by kernel_rfl) Y


theorem r19_3_1y (Y : Ys Prop) (r s : Int) (b0 : Bool) (b2 : Bool) (b3 : Bool) (h : mayE 5 3 r s b0 true b2 b3 = 0) :
   body1 pA (callD pA tb0 la30 5) Y c19 [geo 5 3 r, .int .i64 s, ag b0 true b2 b3, .int .i64 1] ⟨0, .leaf⟩ (endL (Lay.new (Hd.slice 1 1) (some [.int .i64 0]) (AObj.cells [.int .i64 1] false))) :=
  walkL_of_vc (mono30) (.wait 8 (.fix s16 (vi 0) .nil))
  (show (vi (mayE 5 3 r s b0 true b2 b3) = vi 0 ∧ V.tuple [V.slice 2 0 1 1 1, vi (Int.ofNat 0)] = layV (Hd.slice 1 1) (some [vi 0]) 2 ∧ some (AObj.cells [vi (Int.ofNat 1)] false) = some (AObj.cells [vi 1] false)) from
  ⟨(ci h), (by exact ⟨rfl, rfl⟩)⟩)
  (by kernel_rfl) Y


theorem r19_3_1n (Y : Ys Prop) (r s : Int) (b0 : Bool) (b2 : Bool) (b3 : Bool) (h : mayE 5 3 r s b0 false b2 b3 = 0) :
   body1 pA (callD pA tb0 la30 5) Y c19 [geo 5 3 r, .int .i64 s, ag b0 false b2 b3, .int .i64 1] ⟨0, .leaf⟩ (endL (Lay.new (Hd.slice 2 1) (some [.int .i64 0]) (AObj.cells [.int .i64 0, .int .i64 2] false))) :=
  walkL_of_vc (mono30) (.wait 8 (.fix s16 (vi 0) .nil))
  (show (vi (mayE 5 3 r s b0 false b2 b3) = vi 0 ∧ V.tuple [V.slice 5 0 2 2 1, vi (Int.ofNat 0)] = layV (Hd.slice 2 1) (some [vi 0]) 5 ∧ some (AObj.cells [vi (Int.ofNat 0), vi (Int.ofNat 2)] false) = some (AObj.cells [vi 0, vi 2] false)) from
  ⟨(ci h), (by exact ⟨rfl, rfl⟩)⟩)
  (by kernel_rfl) Y


theorem r19_3_2y (Y : Ys Prop) (r s : Int) (b0 : Bool) (b1 : Bool) (b3 : Bool) (h : mayE 5 3 r s b0 b1 true b3 = 0) :
   body1 pA (callD pA tb0 la30 5) Y c19 [geo 5 3 r, .int .i64 s, ag b0 b1 true b3, .int .i64 2] ⟨0, .leaf⟩ (endL (Lay.new (Hd.slice 1 1) (some [.int .i64 0]) (AObj.cells [.int .i64 2] false))) :=
  walkL_of_vc (mono30) (.wait 8 (.fix s16 (vi 0) .nil))
  (show (vi (mayE 5 3 r s b0 b1 true b3) = vi 0 ∧ V.tuple [V.slice 2 0 1 1 1, vi (Int.ofNat 0)] = layV (Hd.slice 1 1) (some [vi 0]) 2 ∧ some (AObj.cells [vi (Int.ofNat 2)] false) = some (AObj.cells [vi 2] false)) from
  ⟨(ci h), (by exact ⟨rfl, rfl⟩)⟩)
  (by kernel_rfl) Y


theorem r19_3_2n (Y : Ys Prop) (r s : Int) (b0 : Bool) (b1 : Bool) (b3 : Bool) (h : mayE 5 3 r s b0 b1 false b3 = 0) :
   body1 pA (callD pA tb0 la30 5) Y c19 [geo 5 3 r, .int .i64 s, ag b0 b1 false b3, .int .i64 2] ⟨0, .leaf⟩ (endL (Lay.new (Hd.slice 2 1) (some [.int .i64 0]) (AObj.cells [.int .i64 0, .int .i64 1] false))) :=
  walkL_of_vc (mono30) (.wait 8 (.fix s16 (vi 0) .nil))
  (show (vi (mayE 5 3 r s b0 b1 false b3) = vi 0 ∧ V.tuple [V.slice 5 0 2 2 1, vi (Int.ofNat 0)] = layV (Hd.slice 2 1) (some [vi 0]) 5 ∧ some (AObj.cells [vi (Int.ofNat 0), vi (Int.ofNat 1)] false) = some (AObj.cells [vi 0, vi 1] false)) from
  ⟨(ci h), (by exact ⟨rfl, rfl⟩)⟩)
  (by kernel_rfl) Y


theorem r19_4_0y (Y : Ys Prop) (r s : Int) (b1 : Bool) (b2 : Bool) (b3 : Bool) (h : mayE 5 4 r s true b1 b2 b3 = 0) :
   body1 pA (callD pA tb0 la30 5) Y c19 [geo 5 4 r, .int .i64 s, ag true b1 b2 b3, .int .i64 0] ⟨0, .leaf⟩ (endL (Lay.new (Hd.slice 1 1) (some [.int .i64 0]) (AObj.cells [.int .i64 0] false))) :=
  walkL_of_vc (mono30) (.wait 8 (.fix s16 (vi 0) .nil))
  (show (vi (mayE 5 4 r s true b1 b2 b3) = vi 0 ∧ V.tuple [V.slice 2 0 1 1 1, vi (Int.ofNat 0)] = layV (Hd.slice 1 1) (some [vi 0]) 2 ∧ some (AObj.cells [vi (Int.ofNat 0)] false) = some (AObj.cells [vi 0] false)) from
  ⟨(ci h), (by exact ⟨rfl, rfl⟩)⟩)
  (by kernel_rfl) Y


theorem r19_4_0n (Y : Ys Prop) (r s : Int) (b1 : Bool) (b2 : Bool) (b3 : Bool) (h : mayE 5 4 r s false b1 b2 b3 = 0) :
   body1 pA (callD pA tb0 la30 5) Y c19 [geo 5 4 r, .int .i64 s, ag false b1 b2 b3, .int .i64 0] ⟨0, .leaf⟩ (endL (Lay.new (Hd.slice 3 1) (some [.int .i64 0]) (AObj.cells [.int .i64 1, .int .i64 2, .int .i64 3] false))) :=
  walkL_of_vc (mono30) (.wait 8 (.fix s16 (vi 0) .nil))
  (show (vi (mayE 5 4 r s false b1 b2 b3) = vi 0 ∧ V.tuple [V.slice 7 0 3 3 1, vi (Int.ofNat 0)] = layV (Hd.slice 3 1) (some [vi 0]) 7 ∧ some (AObj.cells [vi (Int.ofNat 1), vi (Int.ofNat 2), vi (Int.ofNat 3)] false) = some (AObj.cells [vi 1, vi 2, vi 3] false)) from
  ⟨(ci h), (by exact ⟨rfl, rfl⟩)⟩)
  (by kernel_rfl) Y


theorem r19_4_1y (Y : Ys Prop) (r s : Int) (b0 : Bool) (b2 : Bool) (b3 : Bool) (h : mayE 5 4 r s b0 true b2 b3 = 0) :
   body1 pA (callD pA tb0 la30 5) Y c19 [geo 5 4 r, .int .i64 s, ag b0 true b2 b3, .int .i64 1] ⟨0, .leaf⟩ (endL (Lay.new (Hd.slice 1 1) (some [.int .i64 0]) (AObj.cells [.int .i64 1] false))) :=
  walkL_of_vc (mono30) (.wait 8 (.fix s16 (vi 0) .nil))
  (show (vi (mayE 5 4 r s b0 true b2 b3) = vi 0 ∧ V.tuple [V.slice 2 0 1 1 1, vi (Int.ofNat 0)] = layV (Hd.slice 1 1) (some [vi 0]) 2 ∧ some (AObj.cells [vi (Int.ofNat 1)] false) = some (AObj.cells [vi 1] false)) from
  ⟨(ci h), (by exact ⟨rfl, rfl⟩)⟩)
  (by kernel_rfl) Y


theorem r19_4_1n (Y : Ys Prop) (r s : Int) (b0 : Bool) (b2 : Bool) (b3 : Bool) (h : mayE 5 4 r s b0 false b2 b3 = 0) :
   body1 pA (callD pA tb0 la30 5) Y c19 [geo 5 4 r, .int .i64 s, ag b0 false b2 b3, .int .i64 1] ⟨0, .leaf⟩ (endL (Lay.new (Hd.slice 3 1) (some [.int .i64 0]) (AObj.cells [.int .i64 0, .int .i64 2, .int .i64 3] false))) :=
  walkL_of_vc (mono30) (.wait 8 (.fix s16 (vi 0) .nil))
  (show (vi (mayE 5 4 r s b0 false b2 b3) = vi 0 ∧ V.tuple [V.slice 7 0 3 3 1, vi (Int.ofNat 0)] = layV (Hd.slice 3 1) (some [vi 0]) 7 ∧ some (AObj.cells [vi (Int.ofNat 0), vi (Int.ofNat 2), vi (Int.ofNat 3)] false) = some (AObj.cells [vi 0, vi 2, vi 3] false)) from
  ⟨(ci h), (by exact ⟨rfl, rfl⟩)⟩)
  (by kernel_rfl) Y


theorem r19_4_2y (Y : Ys Prop) (r s : Int) (b0 : Bool) (b1 : Bool) (b3 : Bool) (h : mayE 5 4 r s b0 b1 true b3 = 0) :
   body1 pA (callD pA tb0 la30 5) Y c19 [geo 5 4 r, .int .i64 s, ag b0 b1 true b3, .int .i64 2] ⟨0, .leaf⟩ (endL (Lay.new (Hd.slice 1 1) (some [.int .i64 0]) (AObj.cells [.int .i64 2] false))) :=
  walkL_of_vc (mono30) (.wait 8 (.fix s16 (vi 0) .nil))
  (show (vi (mayE 5 4 r s b0 b1 true b3) = vi 0 ∧ V.tuple [V.slice 2 0 1 1 1, vi (Int.ofNat 0)] = layV (Hd.slice 1 1) (some [vi 0]) 2 ∧ some (AObj.cells [vi (Int.ofNat 2)] false) = some (AObj.cells [vi 2] false)) from
  ⟨(ci h), (by exact ⟨rfl, rfl⟩)⟩)
  (by kernel_rfl) Y


theorem r19_4_2n (Y : Ys Prop) (r s : Int) (b0 : Bool) (b1 : Bool) (b3 : Bool) (h : mayE 5 4 r s b0 b1 false b3 = 0) :
   body1 pA (callD pA tb0 la30 5) Y c19 [geo 5 4 r, .int .i64 s, ag b0 b1 false b3, .int .i64 2] ⟨0, .leaf⟩ (endL (Lay.new (Hd.slice 3 1) (some [.int .i64 0]) (AObj.cells [.int .i64 0, .int .i64 1, .int .i64 3] false))) :=
  walkL_of_vc (mono30) (.wait 8 (.fix s16 (vi 0) .nil))
  (show (vi (mayE 5 4 r s b0 b1 false b3) = vi 0 ∧ V.tuple [V.slice 7 0 3 3 1, vi (Int.ofNat 0)] = layV (Hd.slice 3 1) (some [vi 0]) 7 ∧ some (AObj.cells [vi (Int.ofNat 0), vi (Int.ofNat 1), vi (Int.ofNat 3)] false) = some (AObj.cells [vi 0, vi 1, vi 3] false)) from
  ⟨(ci h), (by exact ⟨rfl, rfl⟩)⟩)
  (by kernel_rfl) Y


theorem r19_4_3y (Y : Ys Prop) (r s : Int) (b0 : Bool) (b1 : Bool) (b2 : Bool) (h : mayE 5 4 r s b0 b1 b2 true = 0) :
   body1 pA (callD pA tb0 la30 5) Y c19 [geo 5 4 r, .int .i64 s, ag b0 b1 b2 true, .int .i64 3] ⟨0, .leaf⟩ (endL (Lay.new (Hd.slice 1 1) (some [.int .i64 0]) (AObj.cells [.int .i64 3] false))) :=
  walkL_of_vc (mono30) (.wait 8 (.fix s16 (vi 0) .nil))
  (show (vi (mayE 5 4 r s b0 b1 b2 true) = vi 0 ∧ V.tuple [V.slice 2 0 1 1 1, vi (Int.ofNat 0)] = layV (Hd.slice 1 1) (some [vi 0]) 2 ∧ some (AObj.cells [vi (Int.ofNat 3)] false) = some (AObj.cells [vi 3] false)) from
  ⟨(ci h), (by exact ⟨rfl, rfl⟩)⟩)
  (by kernel_rfl) Y


theorem r19_4_3n (Y : Ys Prop) (r s : Int) (b0 : Bool) (b1 : Bool) (b2 : Bool) (h : mayE 5 4 r s b0 b1 b2 false = 0) :
   body1 pA (callD pA tb0 la30 5) Y c19 [geo 5 4 r, .int .i64 s, ag b0 b1 b2 false, .int .i64 3] ⟨0, .leaf⟩ (endL (Lay.new (Hd.slice 3 1) (some [.int .i64 0]) (AObj.cells [.int .i64 0, .int .i64 1, .int .i64 2] false))) :=
  walkL_of_vc (mono30) (.wait 8 (.fix s16 (vi 0) .nil))
  (show (vi (mayE 5 4 r s b0 b1 b2 false) = vi 0 ∧ V.tuple [V.slice 7 0 3 3 1, vi (Int.ofNat 0)] = layV (Hd.slice 3 1) (some [vi 0]) 7 ∧ some (AObj.cells [vi (Int.ofNat 0), vi (Int.ofNat 1), vi (Int.ofNat 2)] false) = some (AObj.cells [vi 0, vi 1, vi 2] false)) from
  ⟨(ci h), (by exact ⟨rfl, rfl⟩)⟩)
  (by kernel_rfl) Y

theorem r20_e_o0 (e : Int) (he : e ≠ (0 : Int)) : ¬e = (0 : Int) := by omega
theorem r20_e (Y : Ys Prop) (l m r s x : Int) (b0 b1 b2 b3 : Bool) (e : Int) (he : e ≠ 0) (h : mayE l m r s b0 b1 b2 b3 = e) (K : V → Mem → Prop) (hK : ∀ mm, K (.tuple [.nilslice, .int .i64 e]) mm) :
   body1 pA (callD pA tb0 la30 5) Y c20 [geo l m r, .int .i64 s, ag b0 b1 b2 b3, .int .i64 x] ⟨0, .leaf⟩ K :=
  walk_of_vc (mono30) (.wait 8 (.fix s16 (vi e) (.wait 3 (.fix s18 (vb true) .nil))))
  (show (vi (mayE l m r s b0 b1 b2 b3) = vi e ∧ vb (nB (eqI e 0)) = vb true ∧ V.tuple [V.nilslice, vi e] = V.tuple [V.nilslice, vi e]) from
  ⟨(ci h), cb (congrArg Bool.not (eqF rfl rfl (r20_e_o0 e he))), (by rfl)⟩)
  (by kernel_rfl) Y K hK

theorem r20_lo_o0 (x : Int) (u : x < (0 : Int)) : x < (0 : Int) := by omega
theorem r20_lo (Y : Ys Prop) (l m r s x : Int) (b0 b1 b2 b3 : Bool) (h : mayE l m r s b0 b1 b2 b3 = 0) (u : x < 0) (K : V → Mem → Prop) (hK : ∀ mm, K (.tuple [.nilslice, .int .i64 1]) mm) :
   body1 pA (callD pA tb0 la30 5) Y c20 [geo l m r, .int .i64 s, ag b0 b1 b2 b3, .int .i64 x] ⟨0, .leaf⟩ K :=
  walk_of_vc (mono30) (.wait 8 (.fix s16 (vi 0) (.wait 6 (.fix s21 (vb true) .nil))))
  (show (vi (mayE l m r s b0 b1 b2 b3) = vi 0 ∧ vb (ltI x 0) = vb true ∧ V.tuple [V.nilslice, vi (Int.ofNat 1)] = V.tuple [V.nilslice, vi 1]) from
  ⟨(ci h), (cb (ltT rfl rfl (r20_lo_o0 x u))), (by rfl)⟩)
  (by kernel_rfl) Y K hK

theorem r20_hi_o0 (x : Int) (u : (0 : Int) ≤ x) : ¬x < (0 : Int) := by omega
theorem r20_hi_o1 (m : Int) (x : Int) (u : (0 : Int) ≤ x) (u2 : m ≤ x) : ¬x < m := by omega
theorem r20_hi (Y : Ys Prop) (l m r s x : Int) (b0 b1 b2 b3 : Bool) (h : mayE l m r s b0 b1 b2 b3 = 0) (u : 0 ≤ x) (u2 : m ≤ x) (K : V → Mem → Prop) (hK : ∀ mm, K (.tuple [.nilslice, .int .i64 1]) mm) :
   body1 pA (callD pA tb0 la30 5) Y c20 [geo l m r, .int .i64 s, ag b0 b1 b2 b3, .int .i64 x] ⟨0, .leaf⟩ K :=
  walk_of_vc (mono30) (.wait 8 (.fix s16 (vi 0) (.wait 6 (.fix s21 (vb false) (.wait 5 (.fix s26 (vb true) .nil))))))
  (show (vi (mayE l m r s b0 b1 b2 b3) = vi 0 ∧ vb (ltI x 0) = vb false ∧ vb (nB (ltI x m)) = vb true ∧ V.tuple [V.nilslice, vi (Int.ofNat 1)] = V.tuple [V.nilslice, vi 1]) from
  ⟨(ci h), (cb (ltF rfl rfl (r20_hi_o0 x u))), (cb (congrArg Bool.not (ltF rfl rfl (r20_hi_o1 m x u u2)))), (by rfl)⟩)
  (by kernel_rfl) Y K hK


theorem r20_2_0y (Y : Ys Prop) (r s : Int) (b1 : Bool) (b2 : Bool) (b3 : Bool) (h : mayE 1 2 r s true b1 b2 b3 = 0) :
   body1 pA (callD pA tb0 la30 5) Y c20 [geo 1 2 r, .int .i64 s, ag true b1 b2 b3, .int .i64 0] ⟨0, .leaf⟩ (endL (Lay.new (Hd.slice 1 1) (some [.int .i64 0]) (AObj.cells [.int .i64 0] false))) :=
  walkL_of_vc (mono30) (.wait 8 (.fix s16 (vi 0) .nil))
  (show (vi (mayE 1 2 r s true b1 b2 b3) = vi 0 ∧ V.tuple [V.slice 3 0 1 1 1, vi (Int.ofNat 0)] = layV (Hd.slice 1 1) (some [vi 0]) 3 ∧ some (AObj.cells [vi (Int.ofNat 0)] false) = some (AObj.cells [vi 0] false)) from
  ⟨(ci h), (by exact ⟨rfl, rfl⟩)⟩)
  (by kernel_rfl) Y


theorem r20_2_0n (Y : Ys Prop) (r s : Int) (b1 : Bool) (b2 : Bool) (b3 : Bool) (h : mayE 1 2 r s false b1 b2 b3 = 0) :
   body1 pA (callD pA tb0 la30 5) Y c20 [geo 1 2 r, .int .i64 s, ag false b1 b2 b3, .int .i64 0] ⟨0, .leaf⟩ (endL (Lay.new (Hd.slice 1 1) (some [.int .i64 0]) (AObj.cells [.int .i64 1] false))) :=
  walkL_of_vc (mono30) (.wait 8 (.fix s16 (vi 0) .nil))
  (show (vi (mayE 1 2 r s false b1 b2 b3) = vi 0 ∧ V.tuple [V.slice 3 0 1 1 1, vi (Int.ofNat 0)] = layV (Hd.slice 1 1) (some [vi 0]) 3 ∧ some (AObj.cells [vi (Int.ofNat 1)] false) = some (AObj.cells [vi 1] false)) from
  ⟨(ci h), (by exact ⟨rfl, rfl⟩)⟩)
  (by kernel_rfl) Y


theorem r20_2_1y (Y : Ys Prop) (r s : Int) (b0 : Bool) (b2 : Bool) (b3 : Bool) (h : mayE 1 2 r s b0 true b2 b3 = 0) :
   body1 pA (callD pA tb0 la30 5) Y c20 [geo 1 2 r, .int .i64 s, ag b0 true b2 b3, .int .i64 1] ⟨0, .leaf⟩ (endL (Lay.new (Hd.slice 1 1) (some [.int .i64 0]) (AObj.cells [.int .i64 1] false))) :=
  walkL_of_vc (mono30) (.wait 8 (.fix s16 (vi 0) .nil))
  (show (vi (mayE 1 2 r s b0 true b2 b3) = vi 0 ∧ V.tuple [V.slice 3 0 1 1 1, vi (Int.ofNat 0)] = layV (Hd.slice 1 1) (some [vi 0]) 3 ∧ some (AObj.cells [vi (Int.ofNat 1)] false) = some (AObj.cells [vi 1] false)) from
  ⟨(ci h), (by exact ⟨rfl, rfl⟩)⟩)
  (by kernel_rfl) Y


theorem r20_2_1n (Y : Ys Prop) (r s : Int) (b0 : Bool) (b2 : Bool) (b3 : Bool) (h : mayE 1 2 r s b0 false b2 b3 = 0) :
   body1 pA (callD pA tb0 la30 5) Y c20 [geo 1 2 r, .int .i64 s, ag b0 false b2 b3, .int .i64 1] ⟨0, .leaf⟩ (endL (Lay.new (Hd.slice 1 1) (some [.int .i64 0]) (AObj.cells [.int .i64 0] false))) :=
  walkL_of_vc (mono30) (.wait 8 (.fix s16 (vi 0) .nil))
  (show (vi (mayE 1 2 r s b0 false b2 b3) = vi 0 ∧ V.tuple [V.slice 3 0 1 1 1, vi (Int.ofNat 0)] = layV (Hd.slice 1 1) (some [vi 0]) 3 ∧ some (AObj.cells [vi (Int.ofNat 0)] false) = some (AObj.cells [vi 0] false)) from
  ⟨(ci h), (by exact ⟨rfl, rfl⟩)⟩)
  (by kernel_rfl) Y


theorem r20_3_0y (Y : Ys Prop) (r s : Int) (b1 : Bool) (b2 : Bool) (b3 : Bool) (h : mayE 5 3 r s true b1 b2 b3 = 0) :
   body1 pA (callD pA tb0 la30 5) Y c20 [geo 5 3 r, .int .i64 s, ag true b1 b2 b3, .int .i64 0] ⟨0, .leaf⟩ (endL (Lay.new (Hd.slice 1 1) (some [.int .i64 0]) (AObj.cells [.int .i64 0] false))) :=
  walkL_of_vc (mono30) (.wait 8 (.fix s16 (vi 0) .nil))
  (show (vi (mayE 5 3 r s true b1 b2 b3) = vi 0 ∧ V.tuple [V.slice 3 0 1 1 1, vi (Int.ofNat 0)] = layV (Hd.slice 1 1) (some [vi 0]) 3 ∧ some (AObj.cells [vi (Int.ofNat 0)] false) = some (AObj.cells [vi 0] false)) from
  ⟨(ci h), (by exact ⟨rfl, rfl⟩)⟩)
  (by kernel_rfl) Y


theorem r20_3_0n (Y : Ys Prop) (r s : Int) (b1 : Bool) (b2 : Bool) (b3 : Bool) (h : mayE 5 3 r s false b1 b2 b3 = 0) :
   body1 pA (callD pA tb0 la30 5) Y c20 [geo 5 3 r, .int .i64 s, ag false b1 b2 b3, .int .i64 0] ⟨0, .leaf⟩ (endL (Lay.new (Hd.slice 2 1) (some [.int .i64 0]) (AObj.cells [.int .i64 1, .int .i64 2] false))) :=
  walkL_of_vc (mono30) (.wait 8 (.fix s16 (vi 0) .nil))
  (show (vi (mayE 5 3 r s false b1 b2 b3) = vi 0 ∧ V.tuple [V.slice 5 0 2 2 1, vi (Int.ofNat 0)] = layV (Hd.slice 2 1) (some [vi 0]) 5 ∧ some (AObj.cells [vi (Int.ofNat 1), vi (Int.ofNat 2)] false) = some (AObj.cells [vi 1, vi 2] false)) from
  ⟨(ci h), (by exact ⟨rfl, rfl⟩)⟩)
  (by kernel_rfl) Y


theorem r20_3_1y (Y : Ys Prop) (r s : Int) (b0 : Bool) (b2 : Bool) (b3 : Bool) (h : mayE 5 3 r s b0 true b2 b3 = 0) :
   body1 pA (callD pA tb0 la30 5) Y c20 [geo 5 3 r, .int .i64 s, ag b0 true b2 b3, .int .i64 1] ⟨0, .leaf⟩ (endL (Lay.new (Hd.slice 1 1) (some [.int .i64 0]) (AObj.cells [.int .i64 1] false))) :=
  walkL_of_vc (mono30) (.wait 8 (.fix s16 (vi 0) .nil))
  (show (vi (mayE 5 3 r s b0 true b2 b3) = vi 0 ∧ V.tuple [V.slice 3 0 1 1 1, vi (Int.ofNat 0)] = layV (Hd.slice 1 1) (some [vi 0]) 3 ∧ some (AObj.cells [vi (Int.ofNat 1)] false) = some (AObj.cells [vi 1] false)) from
  ⟨(ci h), (by exact ⟨rfl, rfl⟩)⟩)
  (by kernel_rfl) Y


theorem r20_3_1n (Y : Ys Prop) (r s : Int) (b0 : Bool) (b2 : Bool) (b3 : Bool) (h : mayE 5 3 r s b0 false b2 b3 = 0) :
   body1 pA (callD pA tb0 la30 5) Y c20 [geo 5 3 r, .int .i64 s, ag b0 false b2 b3, .int .i64 1] ⟨0, .leaf⟩ (endL (Lay.new (Hd.slice 2 1) (some [.int .i64 0]) (AObj.cells [.int .i64 0, .int .i64 2] false))) :=
  walkL_of_vc (mono30) (.wait 8 (.fix s16 (vi 0) .nil))
  (show (vi (mayE 5 3 r s b0 false b2 b3) = vi 0 ∧ V.tuple [V.slice 5 0 2 2 1, vi (Int.ofNat 0)] = layV (Hd.slice 2 1) (some [vi 0]) 5 ∧ some (AObj.cells [vi (Int.ofNat 0), vi (Int.ofNat 2)] false) = some (AObj.cells [vi 0, vi 2] false)) from
  ⟨(ci h), (by exact ⟨rfl, rfl⟩)⟩)
  (by kernel_rfl) Y


theorem r20_3_2y (Y : Ys Prop) (r s : Int) (b0 : Bool) (b1 : Bool) (b3 : Bool) (h : mayE 5 3 r s b0 b1 true b3 = 0) :
   body1 pA (callD pA tb0 la30 5) Y c20 [geo 5 3 r, .int .i64 s, ag b0 b1 true b3, .int .i64 2] ⟨0, .leaf⟩ (endL (Lay.new (Hd.slice 1 1) (some [.int .i64 0]) (AObj.cells [.int .i64 2] false))) :=
  walkL_of_vc (mono30) (.wait 8 (.fix s16 (vi 0) .nil))
  (show (vi (mayE 5 3 r s b0 b1 true b3) = vi 0 ∧ V.tuple [V.slice 3 0 1 1 1, vi (Int.ofNat 0)] = layV (Hd.slice 1 1) (some [vi 0]) 3 ∧ some (AObj.cells [vi (Int.ofNat 2)] false) = some (AObj.cells [vi 2] false)) from
  ⟨(ci h), (by exact ⟨rfl, rfl⟩)⟩)
  (by kernel_rfl) Y


theorem r20_3_2n (Y : Ys Prop) (r s : Int) (b0 : Bool) (b1 : Bool) (b3 : Bool) (h : mayE 5 3 r s b0 b1 false b3 = 0) :
   body1 pA (callD pA tb0 la30 5) Y c20 [geo 5 3 r, .int .i64 s, ag b0 b1 false b3, .int .i64 2] ⟨0, .leaf⟩ (endL (Lay.new (Hd.slice 2 1) (some [.int .i64 0]) (AObj.cells [.int .i64 0, .int .i64 1] false))) :=
  walkL_of_vc (mono30) (.wait 8 (.fix s16 (vi 0) .nil))
  (show (vi (mayE 5 3 r s b0 b1 false b3) = vi 0 ∧ V.tuple [V.slice 5 0 2 2 1, vi (Int.ofNat 0)] = layV (Hd.slice 2 1) (some [vi 0]) 5 ∧ some (AObj.cells [vi (Int.ofNat 0), vi (Int.ofNat 1)] false) = some (AObj.cells [vi 0, vi 1] false)) from
  ⟨(ci h), (by exact ⟨rfl, rfl⟩)⟩)
  (by kernel_rfl) Y


theorem r20_4_0y (Y : Ys Prop) (r s : Int) (b1 : Bool) (b2 : Bool) (b3 : Bool) (h : mayE 5 4 r s true b1 b2 b3 = 0) :
   body1 pA (callD pA tb0 la30 5) Y c20 [geo 5 4 r, .int .i64 s, ag true b1 b2 b3, .int .i64 0] ⟨0, .leaf⟩ (endL (Lay.new (Hd.slice 1 1) (some [.int .i64 0]) (AObj.cells [.int .i64 0] false))) :=
  walkL_of_vc (mono30) (.wait 8 (.fix s16 (vi 0) .nil))
  (show (vi (mayE 5 4 r s true b1 b2 b3) = vi 0 ∧ V.tuple [V.slice 3 0 1 1 1, vi (Int.ofNat 0)] = layV (Hd.slice 1 1) (some [vi 0]) 3 ∧ some (AObj.cells [vi (Int.ofNat 0)] false) = some (AObj.cells [vi 0] false)) from
  ⟨(ci h), (by exact ⟨rfl, rfl⟩)⟩)
  (by kernel_rfl) Y


theorem r20_4_0n (Y : Ys Prop) (r s : Int) (b1 : Bool) (b2 : Bool) (b3 : Bool) (h : mayE 5 4 r s false b1 b2 b3 = 0) :
   body1 pA (callD pA tb0 la30 5) Y c20 [geo 5 4 r, .int .i64 s, ag false b1 b2 b3, .int .i64 0] ⟨0, .leaf⟩ (endL (Lay.new (Hd.slice 3 1) (some [.int .i64 0]) (AObj.cells [.int .i64 1, .int .i64 2, .int .i64 3] false))) :=
  walkL_of_vc (mono30) (.wait 8 (.fix s16 (vi 0) .nil))
  (show (vi (mayE 5 4 r s false b1 b2 b3) = vi 0 ∧ V.tuple [V.slice 7 0 3 3 1, vi (Int.ofNat 0)] = layV (Hd.slice 3 1) (some [vi 0]) 7 ∧ some (AObj.cells [vi (Int.ofNat 1), vi (Int.ofNat 2), vi (Int.ofNat 3)] false) = some (AObj.cells [vi 1, vi 2, vi 3] false)) from
  ⟨(ci h), (by exact ⟨rfl, rfl⟩)⟩)
  (by kernel_rfl) Y


theorem r20_4_1y (Y : Ys Prop) (r s : Int) (b0 : Bool) (b2 : Bool) (b3 : Bool) (h : mayE 5 4 r s b0 true b2 b3 = 0) :
   body1 pA (callD pA tb0 la30 5) Y c20 [geo 5 4 r, .int .i64 s, ag b0 true b2 b3, .int .i64 1] ⟨0, .leaf⟩ (endL (Lay.new (Hd.slice 1 1) (some [.int .i64 0]) (AObj.cells [.int .i64 1] false))) :=
  walkL_of_vc (mono30) (.wait 8 (.fix s16 (vi 0) .nil))
  (show (vi (mayE 5 4 r s b0 true b2 b3) = vi 0 ∧ V.tuple [V.slice 3 0 1 1 1, vi (Int.ofNat 0)] = layV (Hd.slice 1 1) (some [vi 0]) 3 ∧ some (AObj.cells [vi (Int.ofNat 1)] false) = some (AObj.cells [vi 1] false)) from
  ⟨(ci h), (by exact ⟨rfl, rfl⟩)⟩)
  (by kernel_rfl) Y


theorem r20_4_1n (Y : Ys Prop) (r s : Int) (b0 : Bool) (b2 : Bool) (b3 : Bool) (h : mayE 5 4 r s b0 false b2 b3 = 0) :
   body1 pA (callD pA tb0 la30 5) Y c20 [geo 5 4 r, .int .i64 s, ag b0 false b2 b3, .int .i64 1] ⟨0, .leaf⟩ (endL (Lay.new (Hd.slice 3 1) (some [.int .i64 0]) (AObj.cells [.int .i64 0, .int .i64 2, .int .i64 3] false))) :=
  walkL_of_vc (mono30) (.wait 8 (.fix s16 (vi 0) .nil))
  (show (vi (mayE 5 4 r s b0 false b2 b3) = vi 0 ∧ V.tuple [V.slice 7 0 3 3 1, vi (Int.ofNat 0)] = layV (Hd.slice 3 1) (some [vi 0]) 7 ∧ some (AObj.cells [vi (Int.ofNat 0), vi (Int.ofNat 2), vi (Int.ofNat 3)] false) = some (AObj.cells [vi 0, vi 2, vi 3] false)) from
  ⟨(ci h), (by exact ⟨rfl, rfl⟩)⟩)
  (by kernel_rfl) Y


theorem r20_4_2y (Y : Ys Prop) (r s : Int) (b0 : Bool) (b1 : Bool) (b3 : Bool) (h : mayE 5 4 r s b0 b1 true b3 = 0) :
   body1 pA (callD pA tb0 la30 5) Y c20 [geo 5 4 r, .int .i64 s, ag b0 b1 true b3, .int .i64 2] ⟨0, .leaf⟩ (endL (Lay.new (Hd.slice 1 1) (some [.int .i64 0]) (AObj.cells [.int .i64 2] false))) :=
  walkL_of_vc (mono30) (.wait 8 (.fix s16 (vi 0) .nil))
  (show (vi (mayE 5 4 r s b0 b1 true b3) = vi 0 ∧ V.tuple [V.slice 3 0 1 1 1, vi (Int.ofNat 0)] = layV (Hd.slice 1 1) (some [vi 0]) 3 ∧ some (AObj.cells [vi (Int.ofNat 2)] false) = some (AObj.cells [vi 2] false)) from
  ⟨(ci h), (by exact ⟨rfl, rfl⟩)⟩)
  (by kernel_rfl) Y


theorem r20_4_2n (Y : Ys Prop) (r s : Int) (b0 : Bool) (b1 : Bool) (b3 : Bool) (h : mayE 5 4 r s b0 b1 false b3 = 0) :
   body1 pA (callD pA tb0 la30 5) Y c20 [geo 5 4 r, .int .i64 s, ag b0 b1 false b3, .int .i64 2] ⟨0, .leaf⟩ (endL (Lay.new (Hd.slice 3 1) (some [.int .i64 0]) (AObj.cells [.int .i64 0, .int .i64 1, .int .i64 3] false))) :=
  walkL_of_vc (mono30) (.wait 8 (.fix s16 (vi 0) .nil))
  (show (vi (mayE 5 4 r s b0 b1 false b3) = vi 0 ∧ V.tuple [V.slice 7 0 3 3 1, vi (Int.ofNat 0)] = layV (Hd.slice 3 1) (some [vi 0]) 7 ∧ some (AObj.cells [vi (Int.ofNat 0), vi (Int.ofNat 1), vi (Int.ofNat 3)] false) = some (AObj.cells [vi 0, vi 1, vi 3] false)) from
  ⟨(ci h), (by exact ⟨rfl, rfl⟩)⟩)
  (by kernel_rfl) Y


theorem r20_4_3y (Y : Ys Prop) (r s : Int) (b0 : Bool) (b1 : Bool) (b2 : Bool) (h : mayE 5 4 r s b0 b1 b2 true = 0) :
   body1 pA (callD pA tb0 la30 5) Y c20 [geo 5 4 r, .int .i64 s, ag b0 b1 b2 true, .int .i64 3] ⟨0, .leaf⟩ (endL (Lay.new (Hd.slice 1 1) (some [.int .i64 0]) (AObj.cells [.int .i64 3] false))) :=
  walkL_of_vc (mono30) (.wait 8 (.fix s16 (vi 0) .nil))
  (show (vi (mayE 5 4 r s b0 b1 b2 true) = vi 0 ∧ V.tuple [V.slice 3 0 1 1 1, vi (Int.ofNat 0)] = layV (Hd.slice 1 1) (some [vi 0]) 3 ∧ some (AObj.cells [vi (Int.ofNat 3)] false) = some (AObj.cells [vi 3] false)) from
  ⟨(ci h), (by exact ⟨rfl, rfl⟩)⟩)
  (by kernel_rfl) Y


theorem r20_4_3n (Y : Ys Prop) (r s : Int) (b0 : Bool) (b1 : Bool) (b2 : Bool) (h : mayE 5 4 r s b0 b1 b2 false = 0) :
   body1 pA (callD pA tb0 la30 5) Y c20 [geo 5 4 r, .int .i64 s, ag b0 b1 b2 false, .int .i64 3] ⟨0, .leaf⟩ (endL (Lay.new (Hd.slice 3 1) (some [.int .i64 0]) (AObj.cells [.int .i64 0, .int .i64 1, .int .i64 2] false))) :=
  walkL_of_vc (mono30) (.wait 8 (.fix s16 (vi 0) .nil))
  (show (vi (mayE 5 4 r s b0 b1 b2 false) = vi 0 ∧ V.tuple [V.slice 7 0 3 3 1, vi (Int.ofNat 0)] = layV (Hd.slice 3 1) (some [vi 0]) 7 ∧ some (AObj.cells [vi (Int.ofNat 0), vi (Int.ofNat 1), vi (Int.ofNat 2)] false) = some (AObj.cells [vi 0, vi 1, vi 2] false)) from
  ⟨(ci h), (by exact ⟨rfl, rfl⟩)⟩)
  (by kernel_rfl) Y

theorem g_big_o0 (L : List (Int × List Nat × Nat)) (h : (20 : Nat) < List.length (mV L)) : (20 : Int) < (↑(List.length (mV L)) : Int) := by omega
theorem g_big (Y : Ys Prop) (L : List (Int × List Nat × Nat)) (c : Nat) (ro : Bool) (h : 20 < List.length (mV L)) :
   body1 pA (callD pA tb0 la0 5) Y c8 [.map 0] (memO [.map (mV L) c ro]) (endC ⟨[.map 0], [.map (mV L) c ro], .bool true, [.map (mV L) c ro], []⟩) :=
  walkC_of_vc (C := ⟨[.map 0], [.map (mV L) c ro], .bool true, [.map (mV L) c ro], []⟩) (mono_false) (.wait 4 (.fix s7 (vb true) .nil))
  (show (vb (ltI 20 ↑(List.length (mV L))) = vb true ∧ vb true = vb true ∧ (some (AObj.map (mV L) c ro) = some (AObj.map (mV L) c ro) ∧ True) ∧ True) from
  ⟨cb (ltT rfl rfl (g_big_o0 L h)), (by rfl), ⟨(by rfl), trivial⟩, trivial⟩)
  (by kernel_rfl) Y

theorem g_no_o0 (L : List (Int × List Nat × Nat)) (h : List.length (mV L) ≤ (20 : Nat)) : ¬(20 : Int) < (↑(List.length (mV L)) : Int) := by omega
theorem g_no (Y : Ys Prop) (L : List (Int × List Nat × Nat)) (c : Nat) (ro : Bool) (h : List.length (mV L) ≤ 20) (H : LoopOk3 (callD pA tb0 la0 5) c8l0 (.exit 0) (memL 2 [(0, .map (mV L) c ro), (1, .iter (some 0) c [] c)]) [(s9, .ptr 1 0)] (fun v => List.Perm v (mV L)) (fun v => memL 2 [(0, .map (mV L) c ro), (1, .iter (some 0) c (stamps v) c)]) (fun v => [])) :
   body1 pA (callD pA tb0 la0 5) Y c8 [.map 0] (memO [.map (mV L) c ro]) (endC ⟨[.map 0], [.map (mV L) c ro], .bool false, [.map (mV L) c ro], []⟩) :=
  walkC_of_vc (C := ⟨[.map 0], [.map (mV L) c ro], .bool false, [.map (mV L) c ro], []⟩) (mono_false) (.wait 4 (.fix s7 (vb false) (.wait 3 (.inv3 (Ex.exit 0) (memL 2 [(0, AObj.map (mV L) c ro), (1, AObj.iter (some 0) c [] c)]) ([(s9, V.ptr 1 0)]) (fun v => List.Perm v (mV L)) (fun v => memL 2 [(0, AObj.map (mV L) c ro), (1, AObj.iter (some 0) c (stamps v) c)]) (fun v => []) fun xv0 => .nil))))
  (show (vb (ltI 20 ↑(List.length (mV L))) = vb false ∧ memL 2 [(0, AObj.map (mV L) c ro), (1, AObj.iter (some 0) c [] c)] = memL 2 [(0, AObj.map (mV L) c ro), (1, AObj.iter (some 0) c [] c)] ∧ (V.ptr 1 0 = V.ptr 1 0 ∧ True) ∧ (LoopOk3 (callD pA tb0 la0 5) c8l0 (Ex.exit 0) (memL 2 [(0, AObj.map (mV L) c ro), (1, AObj.iter (some 0) c [] c)]) [(s9, V.ptr 1 0)] (fun v => List.Perm v (mV L)) (fun v => memL 2 [(0, AObj.map (mV L) c ro), (1, AObj.iter (some 0) c (stamps v) c)]) fun v => []) ∧ (∀ (xv0 : List (V × V × Nat)), List.Perm xv0 (mV L) → ∀ (T0 : Slots), allS T0 ([]) → (vb false = vb false ∧ (some (AObj.map (mV L) c ro) = some (AObj.map (mV L) c ro) ∧ True) ∧ True))) from
  ⟨cb (ltF rfl rfl (g_no_o0 L h)), rfl, ⟨rfl, trivial⟩, H, fun xv0 hq0 T0 hj0 => ⟨(by rfl), ⟨(by rfl), trivial⟩, trivial⟩⟩)
  (by kernel_rfl) Y

theorem g_yes_o0 (L : List (Int × List Nat × Nat)) (h : List.length (mV L) ≤ (20 : Nat)) : ¬(20 : Int) < (↑(List.length (mV L)) : Int) := by omega
theorem g_yes (Y : Ys Prop) (L : List (Int × List Nat × Nat)) (c : Nat) (ro : Bool) (h : List.length (mV L) ≤ 20) (H : LoopOk3 (callD pA tb0 la0 5) c8l0 .ret (memL 2 [(0, .map (mV L) c ro), (1, .iter (some 0) c [] c)]) [(s9, .ptr 1 0)] (fun v => Vis (mV L) v) (fun v => memL 2 [(0, .map (mV L) c ro), (1, .iter (some 0) c (stamps v) c)]) (fun v => [(s2, .bool true)])) :
   body1 pA (callD pA tb0 la0 5) Y c8 [.map 0] (memO [.map (mV L) c ro]) (endC ⟨[.map 0], [.map (mV L) c ro], .bool true, [.map (mV L) c ro], []⟩) :=
  walkC_of_vc (C := ⟨[.map 0], [.map (mV L) c ro], .bool true, [.map (mV L) c ro], []⟩) (mono_false) (.wait 4 (.fix s7 (vb false) (.wait 3 (.inv3 (Ex.ret) (memL 2 [(0, AObj.map (mV L) c ro), (1, AObj.iter (some 0) c [] c)]) ([(s9, V.ptr 1 0)]) (fun v => Vis (mV L) v) (fun v => memL 2 [(0, AObj.map (mV L) c ro), (1, AObj.iter (some 0) c (stamps v) c)]) (fun v => [(s2, vb true)]) fun xv0 => .nil))))
  (show (vb (ltI 20 ↑(List.length (mV L))) = vb false ∧ memL 2 [(0, AObj.map (mV L) c ro), (1, AObj.iter (some 0) c [] c)] = memL 2 [(0, AObj.map (mV L) c ro), (1, AObj.iter (some 0) c [] c)] ∧ (V.ptr 1 0 = V.ptr 1 0 ∧ True) ∧ (LoopOk3 (callD pA tb0 la0 5) c8l0 Ex.ret (memL 2 [(0, AObj.map (mV L) c ro), (1, AObj.iter (some 0) c [] c)]) [(s9, V.ptr 1 0)] (fun v => Vis (mV L) v) (fun v => memL 2 [(0, AObj.map (mV L) c ro), (1, AObj.iter (some 0) c (stamps v) c)]) fun v => [(s2, vb true)]) ∧ (∀ (xv0 : List (V × V × Nat)), Vis (mV L) xv0 → ∀ (T0 : Slots), allS T0 ([(s2, vb true)]) → (vb true = vb true ∧ (some (AObj.map (mV L) c ro) = some (AObj.map (mV L) c ro) ∧ True) ∧ True))) from
  ⟨cb (ltF rfl rfl (g_yes_o0 L h)), rfl, ⟨rfl, trivial⟩, H, fun xv0 hq0 T0 hj0 => ⟨(by rfl), ⟨(by rfl), trivial⟩, trivial⟩⟩)
  (by kernel_rfl) Y


theorem g_nil (Y : Ys Prop)  :
   body1 pA (callD pA tb0 la0 5) Y c8 [.nilmap] (memO []) (endC ⟨[.nilmap], [], .bool false, [], []⟩) :=
  walkC_of_vc (C := ⟨[.nilmap], [], .bool false, [], []⟩) (mono_false) .nil
  (show (vb false = vb false ∧ True ∧ True) from
  ⟨(by rfl), trivial, trivial⟩)
  (by kernel_rfl) Y

theorem g_s_o0 (g : List Nat) (hg : List.length g ≤ (200 : Nat)) : ¬(200 : Int) < (↑(List.length g) : Int) := by omega
theorem g_s (Y : Ys Prop) (L : List (Int × List Nat × Nat)) (c t : Nat) (S : List Nat) (ro : Bool) (n : Int) (g : List Nat) (hE : entryV (List.getLast? (S ++ [t])) (some (AObj.map (mV L) c ro)) c = some (.tuple [.int .i64 n, .str g])) (hg : List.length g ≤ 200) (T : Slots) (hT : allS T [(s9, .ptr 1 0)]) (K : Ex → Slots → Mem → Prop) (hK : ∀ T', allS T' [(s9, .ptr 1 0)] → K (.normal) T' (memL 2 [(0, .map (mV L) c ro), (1, .iter (some 0) c (S ++ [t]) c)])) :
   code pA (callD pA tb0 la0 5) Y c8l0b T (memL 2 [(0, .map (mV L) c ro), (1, .iter (some 0) c (S ++ [t]) c)]) K :=
  code_of_vc (mono_false) (.fix s9 (V.ptr 1 0) (.res (V.tuple [vi n, V.str g]) (.wait 5 (.fix s16 (vb false) .nil))))
  (show (Slots.get T s9 = V.ptr 1 0 ∧ entryV (List.getLast? (S ++ [t])) (some (AObj.map (mV L) c ro)) c = some (V.tuple [vi n, V.str g]) ∧ vb (ltI 200 ↑(List.length g)) = vb false ∧ Ex.normal = Ex.normal ∧ memL 2 [(0, AObj.map (mV L) c ro), (1, AObj.iter (some 0) c (S ++ [t]) c)] = memL 2 [(0, AObj.map (mV L) c ro), (1, AObj.iter (some 0) c (S ++ [t]) c)] ∧ (V.ptr 1 0 = V.ptr 1 0 ∧ True)) from
  ⟨hT.1, hE, cb (ltF rfl rfl (g_s_o0 g hg)), rfl, rfl, ⟨rfl, trivial⟩⟩)
  (by kernel_rfl) Y K hK

theorem g_x_o0 (g : List Nat) (hg : (200 : Nat) < List.length g) : (200 : Int) < (↑(List.length g) : Int) := by omega
theorem g_x (Y : Ys Prop) (L : List (Int × List Nat × Nat)) (c t : Nat) (S : List Nat) (ro : Bool) (n : Int) (g : List Nat) (hE : entryV (List.getLast? (S ++ [t])) (some (AObj.map (mV L) c ro)) c = some (.tuple [.int .i64 n, .str g])) (hg : 200 < List.length g) (T : Slots) (hT : allS T [(s9, .ptr 1 0)]) (K : Ex → Slots → Mem → Prop) (hK : ∀ T', allS T' [(s2, .bool true)] → K (.ret) T' (memL 2 [(0, .map (mV L) c ro), (1, .iter (some 0) c (S ++ [t]) c)])) :
   code pA (callD pA tb0 la0 5) Y c8l0b T (memL 2 [(0, .map (mV L) c ro), (1, .iter (some 0) c (S ++ [t]) c)]) K :=
  code_of_vc (mono_false) (.fix s9 (V.ptr 1 0) (.res (V.tuple [vi n, V.str g]) (.wait 5 (.fix s16 (vb true) .nil))))
  (show (Slots.get T s9 = V.ptr 1 0 ∧ entryV (List.getLast? (S ++ [t])) (some (AObj.map (mV L) c ro)) c = some (V.tuple [vi n, V.str g]) ∧ vb (ltI 200 ↑(List.length g)) = vb true ∧ Ex.ret = Ex.ret ∧ memL 2 [(0, AObj.map (mV L) c ro), (1, AObj.iter (some 0) c (S ++ [t]) c)] = memL 2 [(0, AObj.map (mV L) c ro), (1, AObj.iter (some 0) c (S ++ [t]) c)] ∧ (vb true = vb true ∧ True)) from
  ⟨hT.1, hE, cb (ltT rfl rfl (g_x_o0 g hg)), rfl, rfl, ⟨rfl, trivial⟩⟩)
  (by kernel_rfl) Y K hK

theorem v21_e_o0 (e : Int) (he : e ≠ (0 : Int)) : ¬e = (0 : Int) := by omega
theorem v21_e (Y : Ys Prop) (l m r s x : Int) (b0 b1 b2 b3 : Bool) (L : List (Int × List Nat × Nat)) (c : Nat) (ro : Bool) (e : Int) (he : e ≠ 0) (h : S19s [geo l m r, .int .i64 s, ag b0 b1 b2 b3, .int .i64 x] = some (Lay.plain (.tuple [.nilslice, .int .i64 e]))) :
   body1 pA (callD pA tbV la21 6) Y c21 [geo l m r, .int .i64 s, ag b0 b1 b2 b3, .int .i64 x, .map 0] (memO [.map (mV L) c ro]) (endC ⟨[geo l m r, .int .i64 s, ag b0 b1 b2 b3, .int .i64 x, .map 0], [.map (mV L) c ro], .tuple [.str [], .int .i64 e], [.map (mV L) c ro], []⟩) :=
  walkC_of_vc (C := ⟨[geo l m r, .int .i64 s, ag b0 b1 b2 b3, .int .i64 x, .map 0], [.map (mV L) c ro], .tuple [.str [], .int .i64 e], [.map (mV L) c ro], []⟩) (mono21) (.wait 8 (.lay (Lay.plain (V.tuple [V.nilslice, vi e])) (.wait 7 (.fix s23 (vb true) .nil))))
  (show ((∀ (m' : Mem) (K' : V → Mem → Prop), la21 (.func (.func 19) [] []) ([V.agg [vi l, vi m, vi r], vi s, V.agg [vb b0, vb b1, vb b2, vb b3], vi x]) m' K' = Lay.go (Lay.plain (V.tuple [V.nilslice, vi e])) m' K') ∧ (vb (nB (eqI e 0)) = vb true ∧ V.tuple [V.str [], vi e] = V.tuple [V.str [], vi e] ∧ (some (AObj.map (mV L) c ro) = some (AObj.map (mV L) c ro) ∧ True) ∧ True)) from
  ⟨fun m' K' => layE h, ⟨cb (congrArg Bool.not (eqF rfl rfl (v21_e_o0 e he))), (by rfl), ⟨(by rfl), trivial⟩, trivial⟩⟩)
  (by kernel_rfl) Y


theorem v21_1_ok (Y : Ys Prop) (l m r s x : Int) (b0 b1 b2 b3 : Bool) (L : List (Int × List Nat × Nat)) (c : Nat) (ro : Bool) (x0 : Int) (h : S19s [geo l m r, .int .i64 s, ag b0 b1 b2 b3, .int .i64 x] = some (Lay.new (Hd.slice 1 1) (some [.int .i64 0]) (AObj.cells [.int .i64 x0] false))) (g0 X : List Nat) (q0 : lookV (.one .int) false (.str []) (.int .i64 x0) (mV L) = some (.str g0)) (z0 : List.length g0 = 64) (hX : S28 ⟨[.slice 0 0 1 1 1], [.cells [.str g0] false], .tuple [.str X, .int .i64 0], [.cells [.str g0] false], []⟩) :
   body1 pA (callD pA tbV la21 6) Y c21 [geo l m r, .int .i64 s, ag b0 b1 b2 b3, .int .i64 x, .map 0] (memO [.map (mV L) c ro]) (endC ⟨[geo l m r, .int .i64 s, ag b0 b1 b2 b3, .int .i64 x, .map 0], [.map (mV L) c ro], .tuple [.str X, .int .i64 0], [.map (mV L) c ro], []⟩) :=
  walkC_of_vc (C := ⟨[geo l m r, .int .i64 s, ag b0 b1 b2 b3, .int .i64 x, .map 0], [.map (mV L) c ro], .tuple [.str X, .int .i64 0], [.map (mV L) c ro], []⟩) (mono21) (.wait 8 (.lay (Lay.new (Hd.slice 1 1) (some [vi 0]) (AObj.cells [vi x0] false)) (.wait 38 (.res (V.str g0) (.wait 4 (.fix s4 (vi ↑64) (.wait 33 (.res (V.str g0) (.wait 9 (.con ({ args := [V.slice 0 0 1 1 1], pre := [AObj.cells [V.str g0] false], ans := V.tuple [V.str X, vi 0], old := [AObj.cells [V.str g0] false], new := [] }) [6] .nil))))))))))
  (show ((∀ (m' : Mem) (K' : V → Mem → Prop), la21 (.func (.func 19) [] []) ([V.agg [vi l, vi m, vi r], vi s, V.agg [vb b0, vb b1, vb b2, vb b3], vi x]) m' K' = Lay.go (Lay.new (Hd.slice 1 1) (some [vi 0]) (AObj.cells [vi x0] false)) m' K') ∧ (lookV (KT.one SK.int) false (V.str []) (vi x0) (mV L) = some (V.str g0) ∧ vi ↑(List.length g0) = vi ↑64 ∧ lookV (KT.one SK.int) false (V.str []) (vi x0) (mV L) = some (V.str g0) ∧ (∀ (m' : Mem) (K' : V → Mem → Prop), ConAt ({ args := [V.slice 0 0 1 1 1], pre := [AObj.cells [V.str g0] false], ans := V.tuple [V.str X, vi 0], old := [AObj.cells [V.str g0] false], new := [] }) (nthD [6]) ([V.slice 6 0 1 1 1]) m' → K' (V.ren (Con.tau ({ args := [V.slice 0 0 1 1 1], pre := [AObj.cells [V.str g0] false], ans := V.tuple [V.str X, vi 0], old := [AObj.cells [V.str g0] false], new := [] }) (nthD [6]) (Mem.next m')) (Con.ans ({ args := [V.slice 0 0 1 1 1], pre := [AObj.cells [V.str g0] false], ans := V.tuple [V.str X, vi 0], old := [AObj.cells [V.str g0] false], new := [] }))) (Con.mem ({ args := [V.slice 0 0 1 1 1], pre := [AObj.cells [V.str g0] false], ans := V.tuple [V.str X, vi 0], old := [AObj.cells [V.str g0] false], new := [] }) (nthD [6]) m') → la21 (.func (.func 28) [] []) ([V.slice 6 0 1 1 1]) m' K') ∧ Con.wf ({ args := [V.slice 0 0 1 1 1], pre := [AObj.cells [V.str g0] false], ans := V.tuple [V.str X, vi 0], old := [AObj.cells [V.str g0] false], new := [] }) = true ∧ true = true ∧ [V.slice 6 0 1 1 1] = rens (nthD [6]) ([V.slice 0 0 1 1 1]) ∧ (some (AObj.cells [V.str g0] false) = some (AObj.ren (nthD [6]) (AObj.cells [V.str g0] false)) ∧ True) ∧ (V.tuple [V.str X, vi (Int.ofNat 0)] = V.tuple [V.str X, vi 0] ∧ (some (AObj.map (mV L) c ro) = some (AObj.map (mV L) c ro) ∧ True) ∧ True))) from
  ⟨fun m' K' => layE h, ⟨q0, (ci (casN z0)), q0, fun m' K' h1 h2 => conIn (hX) h1 h2, (by kernel_rfl), rfl, rfl, ⟨rfl, trivial⟩, ⟨(by rfl), ⟨(by rfl), trivial⟩, trivial⟩⟩⟩)
  (by kernel_rfl) Y

theorem v21_1_b0_o0 (g0 : List Nat) (z0 : List.length g0 ≠ (64 : Nat)) : ¬(↑(List.length g0) : Int) = (64 : Int) := by omega
theorem v21_1_b0 (Y : Ys Prop) (l m r s x : Int) (b0 b1 b2 b3 : Bool) (L : List (Int × List Nat × Nat)) (c : Nat) (ro : Bool) (x0 : Int) (h : S19s [geo l m r, .int .i64 s, ag b0 b1 b2 b3, .int .i64 x] = some (Lay.new (Hd.slice 1 1) (some [.int .i64 0]) (AObj.cells [.int .i64 x0] false))) (g0 : List Nat) (q0 : lookV (.one .int) false (.str []) (.int .i64 x0) (mV L) = some (.str g0)) (z0 : List.length g0 ≠ 64) :
   body1 pA (callD pA tbV la21 6) Y c21 [geo l m r, .int .i64 s, ag b0 b1 b2 b3, .int .i64 x, .map 0] (memO [.map (mV L) c ro]) (endC ⟨[geo l m r, .int .i64 s, ag b0 b1 b2 b3, .int .i64 x, .map 0], [.map (mV L) c ro], .tuple [.str [], .int .i64 1], [.map (mV L) c ro], []⟩) :=
  walkC_of_vc (C := ⟨[geo l m r, .int .i64 s, ag b0 b1 b2 b3, .int .i64 x, .map 0], [.map (mV L) c ro], .tuple [.str [], .int .i64 1], [.map (mV L) c ro], []⟩) (mono21) (.wait 8 (.lay (Lay.new (Hd.slice 1 1) (some [vi 0]) (AObj.cells [vi x0] false)) (.wait 38 (.res (V.str g0) (.wait 5 (.fix s5 (vb false) .nil))))))
  (show ((∀ (m' : Mem) (K' : V → Mem → Prop), la21 (.func (.func 19) [] []) ([V.agg [vi l, vi m, vi r], vi s, V.agg [vb b0, vb b1, vb b2, vb b3], vi x]) m' K' = Lay.go (Lay.new (Hd.slice 1 1) (some [vi 0]) (AObj.cells [vi x0] false)) m' K') ∧ (lookV (KT.one SK.int) false (V.str []) (vi x0) (mV L) = some (V.str g0) ∧ vb (eqI (↑(List.length g0)) 64) = vb false ∧ V.tuple [V.str [], vi (Int.ofNat 1)] = V.tuple [V.str [], vi 1] ∧ (some (AObj.map (mV L) c ro) = some (AObj.map (mV L) c ro) ∧ True) ∧ True)) from
  ⟨fun m' K' => layE h, ⟨q0, (cb (eqF rfl rfl (v21_1_b0_o0 g0 z0))), (by rfl), ⟨(by rfl), trivial⟩, trivial⟩⟩)
  (by kernel_rfl) Y


theorem v21_2_ok (Y : Ys Prop) (l m r s x : Int) (b0 b1 b2 b3 : Bool) (L : List (Int × List Nat × Nat)) (c : Nat) (ro : Bool) (x0 x1 : Int) (h : S19s [geo l m r, .int .i64 s, ag b0 b1 b2 b3, .int .i64 x] = some (Lay.new (Hd.slice 2 1) (some [.int .i64 0]) (AObj.cells [.int .i64 x0, .int .i64 x1] false))) (g0 g1 X : List Nat) (q0 : lookV (.one .int) false (.str []) (.int .i64 x0) (mV L) = some (.str g0)) (q1 : lookV (.one .int) false (.str []) (.int .i64 x1) (mV L) = some (.str g1)) (z0 : List.length g0 = 64) (z1 : List.length g1 = 64) (hX : S28 ⟨[.slice 0 0 2 2 1], [.cells [.str g0, .str g1] false], .tuple [.str X, .int .i64 0], [.cells [.str g0, .str g1] false], []⟩) :
   body1 pA (callD pA tbV la21 6) Y c21 [geo l m r, .int .i64 s, ag b0 b1 b2 b3, .int .i64 x, .map 0] (memO [.map (mV L) c ro]) (endC ⟨[geo l m r, .int .i64 s, ag b0 b1 b2 b3, .int .i64 x, .map 0], [.map (mV L) c ro], .tuple [.str X, .int .i64 0], [.map (mV L) c ro], []⟩) :=
  walkC_of_vc (C := ⟨[geo l m r, .int .i64 s, ag b0 b1 b2 b3, .int .i64 x, .map 0], [.map (mV L) c ro], .tuple [.str X, .int .i64 0], [.map (mV L) c ro], []⟩) (mono21) (.wait 8 (.lay (Lay.new (Hd.slice 2 1) (some [vi 0]) (AObj.cells [vi x0, vi x1] false)) (.wait 38 (.res (V.str g0) (.wait 4 (.fix s4 (vi ↑64) (.wait 20 (.res (V.str g1) (.wait 4 (.fix s4 (vi ↑64) (.wait 33 (.res (V.str g0) (.wait 13 (.res (V.str g1) (.wait 9 (.con ({ args := [V.slice 0 0 2 2 1], pre := [AObj.cells [V.str g0, V.str g1] false], ans := V.tuple [V.str X, vi 0], old := [AObj.cells [V.str g0, V.str g1] false], new := [] }) [8] .nil))))))))))))))))
  (show ((∀ (m' : Mem) (K' : V → Mem → Prop), la21 (.func (.func 19) [] []) ([V.agg [vi l, vi m, vi r], vi s, V.agg [vb b0, vb b1, vb b2, vb b3], vi x]) m' K' = Lay.go (Lay.new (Hd.slice 2 1) (some [vi 0]) (AObj.cells [vi x0, vi x1] false)) m' K') ∧ (lookV (KT.one SK.int) false (V.str []) (vi x0) (mV L) = some (V.str g0) ∧ vi ↑(List.length g0) = vi ↑64 ∧ lookV (KT.one SK.int) false (V.str []) (vi x1) (mV L) = some (V.str g1) ∧ vi ↑(List.length g1) = vi ↑64 ∧ lookV (KT.one SK.int) false (V.str []) (vi x0) (mV L) = some (V.str g0) ∧ lookV (KT.one SK.int) false (V.str []) (vi x1) (mV L) = some (V.str g1) ∧ (∀ (m' : Mem) (K' : V → Mem → Prop), ConAt ({ args := [V.slice 0 0 2 2 1], pre := [AObj.cells [V.str g0, V.str g1] false], ans := V.tuple [V.str X, vi 0], old := [AObj.cells [V.str g0, V.str g1] false], new := [] }) (nthD [8]) ([V.slice 8 0 2 2 1]) m' → K' (V.ren (Con.tau ({ args := [V.slice 0 0 2 2 1], pre := [AObj.cells [V.str g0, V.str g1] false], ans := V.tuple [V.str X, vi 0], old := [AObj.cells [V.str g0, V.str g1] false], new := [] }) (nthD [8]) (Mem.next m')) (Con.ans ({ args := [V.slice 0 0 2 2 1], pre := [AObj.cells [V.str g0, V.str g1] false], ans := V.tuple [V.str X, vi 0], old := [AObj.cells [V.str g0, V.str g1] false], new := [] }))) (Con.mem ({ args := [V.slice 0 0 2 2 1], pre := [AObj.cells [V.str g0, V.str g1] false], ans := V.tuple [V.str X, vi 0], old := [AObj.cells [V.str g0, V.str g1] false], new := [] }) (nthD [8]) m') → la21 (.func (.func 28) [] []) ([V.slice 8 0 2 2 1]) m' K') ∧ Con.wf ({ args := [V.slice 0 0 2 2 1], pre := [AObj.cells [V.str g0, V.str g1] false], ans := V.tuple [V.str X, vi 0], old := [AObj.cells [V.str g0, V.str g1] false], new := [] }) = true ∧ true = true ∧ [V.slice 8 0 2 2 1] = rens (nthD [8]) ([V.slice 0 0 2 2 1]) ∧ (some (AObj.cells [V.str g0, V.str g1] false) = some (AObj.ren (nthD [8]) (AObj.cells [V.str g0, V.str g1] false)) ∧ True) ∧ (V.tuple [V.str X, vi (Int.ofNat 0)] = V.tuple [V.str X, vi 0] ∧ (some (AObj.map (mV L) c ro) = some (AObj.map (mV L) c ro) ∧ True) ∧ True))) from
  ⟨fun m' K' => layE h, ⟨q0, (ci (casN z0)), q1, (ci (casN z1)), q0, q1, fun m' K' h1 h2 => conIn (hX) h1 h2, (by kernel_rfl), rfl, rfl, ⟨rfl, trivial⟩, ⟨(by rfl), ⟨(by rfl), trivial⟩, trivial⟩⟩⟩)
  (by kernel_rfl) Y

theorem v21_2_b0_o0 (g0 : List Nat) (z0 : List.length g0 ≠ (64 : Nat)) : ¬(↑(List.length g0) : Int) = (64 : Int) := by omega
theorem v21_2_b0 (Y : Ys Prop) (l m r s x : Int) (b0 b1 b2 b3 : Bool) (L : List (Int × List Nat × Nat)) (c : Nat) (ro : Bool) (x0 x1 : Int) (h : S19s [geo l m r, .int .i64 s, ag b0 b1 b2 b3, .int .i64 x] = some (Lay.new (Hd.slice 2 1) (some [.int .i64 0]) (AObj.cells [.int .i64 x0, .int .i64 x1] false))) (g0 g1 : List Nat) (q0 : lookV (.one .int) false (.str []) (.int .i64 x0) (mV L) = some (.str g0)) (q1 : lookV (.one .int) false (.str []) (.int .i64 x1) (mV L) = some (.str g1)) (z0 : List.length g0 ≠ 64) :
   body1 pA (callD pA tbV la21 6) Y c21 [geo l m r, .int .i64 s, ag b0 b1 b2 b3, .int .i64 x, .map 0] (memO [.map (mV L) c ro]) (endC ⟨[geo l m r, .int .i64 s, ag b0 b1 b2 b3, .int .i64 x, .map 0], [.map (mV L) c ro], .tuple [.str [], .int .i64 1], [.map (mV L) c ro], []⟩) :=
  walkC_of_vc (C := ⟨[geo l m r, .int .i64 s, ag b0 b1 b2 b3, .int .i64 x, .map 0], [.map (mV L) c ro], .tuple [.str [], .int .i64 1], [.map (mV L) c ro], []⟩) (mono21) (.wait 8 (.lay (Lay.new (Hd.slice 2 1) (some [vi 0]) (AObj.cells [vi x0, vi x1] false)) (.wait 38 (.res (V.str g0) (.wait 5 (.fix s5 (vb false) .nil))))))
  (show ((∀ (m' : Mem) (K' : V → Mem → Prop), la21 (.func (.func 19) [] []) ([V.agg [vi l, vi m, vi r], vi s, V.agg [vb b0, vb b1, vb b2, vb b3], vi x]) m' K' = Lay.go (Lay.new (Hd.slice 2 1) (some [vi 0]) (AObj.cells [vi x0, vi x1] false)) m' K') ∧ (lookV (KT.one SK.int) false (V.str []) (vi x0) (mV L) = some (V.str g0) ∧ vb (eqI (↑(List.length g0)) 64) = vb false ∧ V.tuple [V.str [], vi (Int.ofNat 1)] = V.tuple [V.str [], vi 1] ∧ (some (AObj.map (mV L) c ro) = some (AObj.map (mV L) c ro) ∧ True) ∧ True)) from
  ⟨fun m' K' => layE h, ⟨q0, (cb (eqF rfl rfl (v21_2_b0_o0 g0 z0))), (by rfl), ⟨(by rfl), trivial⟩, trivial⟩⟩)
  (by kernel_rfl) Y

theorem v21_2_b1_o0 (g1 : List Nat) (z1 : List.length g1 ≠ (64 : Nat)) : ¬(↑(List.length g1) : Int) = (64 : Int) := by omega
theorem v21_2_b1 (Y : Ys Prop) (l m r s x : Int) (b0 b1 b2 b3 : Bool) (L : List (Int × List Nat × Nat)) (c : Nat) (ro : Bool) (x0 x1 : Int) (h : S19s [geo l m r, .int .i64 s, ag b0 b1 b2 b3, .int .i64 x] = some (Lay.new (Hd.slice 2 1) (some [.int .i64 0]) (AObj.cells [.int .i64 x0, .int .i64 x1] false))) (g0 g1 : List Nat) (q0 : lookV (.one .int) false (.str []) (.int .i64 x0) (mV L) = some (.str g0)) (q1 : lookV (.one .int) false (.str []) (.int .i64 x1) (mV L) = some (.str g1)) (z0 : List.length g0 = 64) (z1 : List.length g1 ≠ 64) :
   body1 pA (callD pA tbV la21 6) Y c21 [geo l m r, .int .i64 s, ag b0 b1 b2 b3, .int .i64 x, .map 0] (memO [.map (mV L) c ro]) (endC ⟨[geo l m r, .int .i64 s, ag b0 b1 b2 b3, .int .i64 x, .map 0], [.map (mV L) c ro], .tuple [.str [], .int .i64 1], [.map (mV L) c ro], []⟩) :=
  walkC_of_vc (C := ⟨[geo l m r, .int .i64 s, ag b0 b1 b2 b3, .int .i64 x, .map 0], [.map (mV L) c ro], .tuple [.str [], .int .i64 1], [.map (mV L) c ro], []⟩) (mono21) (.wait 8 (.lay (Lay.new (Hd.slice 2 1) (some [vi 0]) (AObj.cells [vi x0, vi x1] false)) (.wait 38 (.res (V.str g0) (.wait 4 (.fix s4 (vi ↑64) (.wait 20 (.res (V.str g1) (.wait 5 (.fix s5 (vb false) .nil))))))))))
  (show ((∀ (m' : Mem) (K' : V → Mem → Prop), la21 (.func (.func 19) [] []) ([V.agg [vi l, vi m, vi r], vi s, V.agg [vb b0, vb b1, vb b2, vb b3], vi x]) m' K' = Lay.go (Lay.new (Hd.slice 2 1) (some [vi 0]) (AObj.cells [vi x0, vi x1] false)) m' K') ∧ (lookV (KT.one SK.int) false (V.str []) (vi x0) (mV L) = some (V.str g0) ∧ vi ↑(List.length g0) = vi ↑64 ∧ lookV (KT.one SK.int) false (V.str []) (vi x1) (mV L) = some (V.str g1) ∧ vb (eqI (↑(List.length g1)) 64) = vb false ∧ V.tuple [V.str [], vi (Int.ofNat 1)] = V.tuple [V.str [], vi 1] ∧ (some (AObj.map (mV L) c ro) = some (AObj.map (mV L) c ro) ∧ True) ∧ True)) from
  ⟨fun m' K' => layE h, ⟨q0, (ci (casN z0)), q1, (cb (eqF rfl rfl (v21_2_b1_o0 g1 z1))), (by rfl), ⟨(by rfl), trivial⟩, trivial⟩⟩)
  (by kernel_rfl) Y


theorem v21_3_ok (Y : Ys Prop) (l m r s x : Int) (b0 b1 b2 b3 : Bool) (L : List (Int × List Nat × Nat)) (c : Nat) (ro : Bool) (x0 x1 x2 : Int) (h : S19s [geo l m r, .int .i64 s, ag b0 b1 b2 b3, .int .i64 x] = some (Lay.new (Hd.slice 3 1) (some [.int .i64 0]) (AObj.cells [.int .i64 x0, .int .i64 x1, .int .i64 x2] false))) (g0 g1 g2 X : List Nat) (q0 : lookV (.one .int) false (.str []) (.int .i64 x0) (mV L) = some (.str g0)) (q1 : lookV (.one .int) false (.str []) (.int .i64 x1) (mV L) = some (.str g1)) (q2 : lookV (.one .int) false (.str []) (.int .i64 x2) (mV L) = some (.str g2)) (z0 : List.length g0 = 64) (z1 : List.length g1 = 64) (z2 : List.length g2 = 64) (hX : S28 ⟨[.slice 0 0 3 3 1], [.cells [.str g0, .str g1, .str g2] false], .tuple [.str X, .int .i64 0], [.cells [.str g0, .str g1, .str g2] false], []⟩) :
   body1 pA (callD pA tbV la21 6) Y c21 [geo l m r, .int .i64 s, ag b0 b1 b2 b3, .int .i64 x, .map 0] (memO [.map (mV L) c ro]) (endC ⟨[geo l m r, .int .i64 s, ag b0 b1 b2 b3, .int .i64 x, .map 0], [.map (mV L) c ro], .tuple [.str X, .int .i64 0], [.map (mV L) c ro], []⟩) :=
  walkC_of_vc (C := ⟨[geo l m r, .int .i64 s, ag b0 b1 b2 b3, .int .i64 x, .map 0], [.map (mV L) c ro], .tuple [.str X, .int .i64 0], [.map (mV L) c ro], []⟩) (mono21) (.wait 8 (.lay (Lay.new (Hd.slice 3 1) (some [vi 0]) (AObj.cells [vi x0, vi x1, vi x2] false)) (.wait 38 (.res (V.str g0) (.wait 4 (.fix s4 (vi ↑64) (.wait 20 (.res (V.str g1) (.wait 4 (.fix s4 (vi ↑64) (.wait 20 (.res (V.str g2) (.wait 4 (.fix s4 (vi ↑64) (.wait 33 (.res (V.str g0) (.wait 13 (.res (V.str g1) (.wait 13 (.res (V.str g2) (.wait 9 (.con ({ args := [V.slice 0 0 3 3 1], pre := [AObj.cells [V.str g0, V.str g1, V.str g2] false], ans := V.tuple [V.str X, vi 0], old := [AObj.cells [V.str g0, V.str g1, V.str g2] false], new := [] }) [10] .nil))))))))))))))))))))))
  (show ((∀ (m' : Mem) (K' : V → Mem → Prop), la21 (.func (.func 19) [] []) ([V.agg [vi l, vi m, vi r], vi s, V.agg [vb b0, vb b1, vb b2, vb b3], vi x]) m' K' = Lay.go (Lay.new (Hd.slice 3 1) (some [vi 0]) (AObj.cells [vi x0, vi x1, vi x2] false)) m' K') ∧ (lookV (KT.one SK.int) false (V.str []) (vi x0) (mV L) = some (V.str g0) ∧ vi ↑(List.length g0) = vi ↑64 ∧ lookV (KT.one SK.int) false (V.str []) (vi x1) (mV L) = some (V.str g1) ∧ vi ↑(List.length g1) = vi ↑64 ∧ lookV (KT.one SK.int) false (V.str []) (vi x2) (mV L) = some (V.str g2) ∧ vi ↑(List.length g2) = vi ↑64 ∧ lookV (KT.one SK.int) false (V.str []) (vi x0) (mV L) = some (V.str g0) ∧ lookV (KT.one SK.int) false (V.str []) (vi x1) (mV L) = some (V.str g1) ∧ lookV (KT.one SK.int) false (V.str []) (vi x2) (mV L) = some (V.str g2) ∧ (∀ (m' : Mem) (K' : V → Mem → Prop), ConAt ({ args := [V.slice 0 0 3 3 1], pre := [AObj.cells [V.str g0, V.str g1, V.str g2] false], ans := V.tuple [V.str X, vi 0], old := [AObj.cells [V.str g0, V.str g1, V.str g2] false], new := [] }) (nthD [10]) ([V.slice 10 0 3 3 1]) m' → K' (V.ren (Con.tau ({ args := [V.slice 0 0 3 3 1], pre := [AObj.cells [V.str g0, V.str g1, V.str g2] false], ans := V.tuple [V.str X, vi 0], old := [AObj.cells [V.str g0, V.str g1, V.str g2] false], new := [] }) (nthD [10]) (Mem.next m')) (Con.ans ({ args := [V.slice 0 0 3 3 1], pre := [AObj.cells [V.str g0, V.str g1, V.str g2] false], ans := V.tuple [V.str X, vi 0], old := [AObj.cells [V.str g0, V.str g1, V.str g2] false], new := [] }))) (Con.mem ({ args := [V.slice 0 0 3 3 1], pre := [AObj.cells [V.str g0, V.str g1, V.str g2] false], ans := V.tuple [V.str X, vi 0], old := [AObj.cells [V.str g0, V.str g1, V.str g2] false], new := [] }) (nthD [10]) m') → la21 (.func (.func 28) [] []) ([V.slice 10 0 3 3 1]) m' K') ∧ Con.wf ({ args := [V.slice 0 0 3 3 1], pre := [AObj.cells [V.str g0, V.str g1, V.str g2] false], ans := V.tuple [V.str X, vi 0], old := [AObj.cells [V.str g0, V.str g1, V.str g2] false], new := [] }) = true ∧ true = true ∧ [V.slice 10 0 3 3 1] = rens (nthD [10]) ([V.slice 0 0 3 3 1]) ∧ (some (AObj.cells [V.str g0, V.str g1, V.str g2] false) = some (AObj.ren (nthD [10]) (AObj.cells [V.str g0, V.str g1, V.str g2] false)) ∧ True) ∧ (V.tuple [V.str X, vi (Int.ofNat 0)] = V.tuple [V.str X, vi 0] ∧ (some (AObj.map (mV L) c ro) = some (AObj.map (mV L) c ro) ∧ True) ∧ True))) from
  ⟨fun m' K' => layE h, ⟨q0, (ci (casN z0)), q1, (ci (casN z1)), q2, (ci (casN z2)), q0, q1, q2, fun m' K' h1 h2 => conIn (hX) h1 h2, (by kernel_rfl), rfl, rfl, ⟨rfl, trivial⟩, ⟨(by rfl), ⟨(by rfl), trivial⟩, trivial⟩⟩⟩)
  (by kernel_rfl) Y

theorem v21_3_b0_o0 (g0 : List Nat) (z0 : List.length g0 ≠ (64 : Nat)) : ¬(↑(List.length g0) : Int) = (64 : Int) := by omega
theorem v21_3_b0 (Y : Ys Prop) (l m r s x : Int) (b0 b1 b2 b3 : Bool) (L : List (Int × List Nat × Nat)) (c : Nat) (ro : Bool) (x0 x1 x2 : Int) (h : S19s [geo l m r, .int .i64 s, ag b0 b1 b2 b3, .int .i64 x] = some (Lay.new (Hd.slice 3 1) (some [.int .i64 0]) (AObj.cells [.int .i64 x0, .int .i64 x1, .int .i64 x2] false))) (g0 g1 g2 : List Nat) (q0 : lookV (.one .int) false (.str []) (.int .i64 x0) (mV L) = some (.str g0)) (q1 : lookV (.one .int) false (.str []) (.int .i64 x1) (mV L) = some (.str g1)) (q2 : lookV (.one .int) false (.str []) (.int .i64 x2) (mV L) = some (.str g2)) (z0 : List.length g0 ≠ 64) :
   body1 pA (callD pA tbV la21 6) Y c21 [geo l m r, .int .i64 s, ag b0 b1 b2 b3, .int .i64 x, .map 0] (memO [.map (mV L) c ro]) (endC ⟨[geo l m r, .int .i64 s, ag b0 b1 b2 b3, .int .i64 x, .map 0], [.map (mV L) c ro], .tuple [.str [], .int .i64 1], [.map (mV L) c ro], []⟩) :=
  walkC_of_vc (C := ⟨[geo l m r, .int .i64 s, ag b0 b1 b2 b3, .int .i64 x, .map 0], [.map (mV L) c ro], .tuple [.str [], .int .i64 1], [.map (mV L) c ro], []⟩) (mono21) (.wait 8 (.lay (Lay.new (Hd.slice 3 1) (some [vi 0]) (AObj.cells [vi x0, vi x1, vi x2] false)) (.wait 38 (.res (V.str g0) (.wait 5 (.fix s5 (vb false) .nil))))))
  (show ((∀ (m' : Mem) (K' : V → Mem → Prop), la21 (.func (.func 19) [] []) ([V.agg [vi l, vi m, vi r], vi s, V.agg [vb b0, vb b1, vb b2, vb b3], vi x]) m' K' = Lay.go (Lay.new (Hd.slice 3 1) (some [vi 0]) (AObj.cells [vi x0, vi x1, vi x2] false)) m' K') ∧ (lookV (KT.one SK.int) false (V.str []) (vi x0) (mV L) = some (V.str g0) ∧ vb (eqI (↑(List.length g0)) 64) = vb false ∧ V.tuple [V.str [], vi (Int.ofNat 1)] = V.tuple [V.str [], vi 1] ∧ (some (AObj.map (mV L) c ro) = some (AObj.map (mV L) c ro) ∧ True) ∧ True)) from
  ⟨fun m' K' => layE h, ⟨q0, (cb (eqF rfl rfl (v21_3_b0_o0 g0 z0))), (by rfl), ⟨(by rfl), trivial⟩, trivial⟩⟩)
  (by kernel_rfl) Y

theorem v21_3_b1_o0 (g1 : List Nat) (z1 : List.length g1 ≠ (64 : Nat)) : ¬(↑(List.length g1) : Int) = (64 : Int) := by omega
theorem v21_3_b1 (Y : Ys Prop) (l m r s x : Int) (b0 b1 b2 b3 : Bool) (L : List (Int × List Nat × Nat)) (c : Nat) (ro : Bool) (x0 x1 x2 : Int) (h : S19s [geo l m r, .int .i64 s, ag b0 b1 b2 b3, .int .i64 x] = some (Lay.new (Hd.slice 3 1) (some [.int .i64 0]) (AObj.cells [.int .i64 x0, .int .i64 x1, .int .i64 x2] false))) (g0 g1 g2 : List Nat) (q0 : lookV (.one .int) false (.str []) (.int .i64 x0) (mV L) = some (.str g0)) (q1 : lookV (.one .int) false (.str []) (.int .i64 x1) (mV L) = some (.str g1)) (q2 : lookV (.one .int) false (.str []) (.int .i64 x2) (mV L) = some (.str g2)) (z0 : List.length g0 = 64) (z1 : List.length g1 ≠ 64) :
   body1 pA (callD pA tbV la21 6) Y c21 [geo l m r, .int .i64 s, ag b0 b1 b2 b3, .int .i64 x, .map 0] (memO [.map (mV L) c ro]) (endC ⟨[geo l m r, .int .i64 s, ag b0 b1 b2 b3, .int .i64 x, .map 0], [.map (mV L) c ro], .tuple [.str [], .int .i64 1], [.map (mV L) c ro], []⟩) :=
  walkC_of_vc (C := ⟨[geo l m r, .int .i64 s, ag b0 b1 b2 b3, .int .i64 x, .map 0], [.map (mV L) c ro], .tuple [.str [], .int .i64 1], [.map (mV L) c ro], []⟩) (mono21) (.wait 8 (.lay (Lay.new (Hd.slice 3 1) (some [vi 0]) (AObj.cells [vi x0, vi x1, vi x2] false)) (.wait 38 (.res (V.str g0) (.wait 4 (.fix s4 (vi ↑64) (.wait 20 (.res (V.str g1) (.wait 5 (.fix s5 (vb false) .nil))))))))))
  (show ((∀ (m' : Mem) (K' : V → Mem → Prop), la21 (.func (.func 19) [] []) ([V.agg [vi l, vi m, vi r], vi s, V.agg [vb b0, vb b1, vb b2, vb b3], vi x]) m' K' = Lay.go (Lay.new (Hd.slice 3 1) (some [vi 0]) (AObj.cells [vi x0, vi x1, vi x2] false)) m' K') ∧ (lookV (KT.one SK.int) false (V.str []) (vi x0) (mV L) = some (V.str g0) ∧ vi ↑(List.length g0) = vi ↑64 ∧ lookV (KT.one SK.int) false (V.str []) (vi x1) (mV L) = some (V.str g1) ∧ vb (eqI (↑(List.length g1)) 64) = vb false ∧ V.tuple [V.str [], vi (Int.ofNat 1)] = V.tuple [V.str [], vi 1] ∧ (some (AObj.map (mV L) c ro) = some (AObj.map (mV L) c ro) ∧ True) ∧ True)) from
  ⟨fun m' K' => layE h, ⟨q0, (ci (casN z0)), q1, (cb (eqF rfl rfl (v21_3_b1_o0 g1 z1))), (by rfl), ⟨(by rfl), trivial⟩, trivial⟩⟩)
  (by kernel_rfl) Y

theorem v21_3_b2_o0 (g2 : List Nat) (z2 : List.length g2 ≠ (64 : Nat)) : ¬(↑(List.length g2) : Int) = (64 : Int) := by omega
theorem v21_3_b2 (Y : Ys Prop) (l m r s x : Int) (b0 b1 b2 b3 : Bool) (L : List (Int × List Nat × Nat)) (c : Nat) (ro : Bool) (x0 x1 x2 : Int) (h : S19s [geo l m r, .int .i64 s, ag b0 b1 b2 b3, .int .i64 x] = some (Lay.new (Hd.slice 3 1) (some [.int .i64 0]) (AObj.cells [.int .i64 x0, .int .i64 x1, .int .i64 x2] false))) (g0 g1 g2 : List Nat) (q0 : lookV (.one .int) false (.str []) (.int .i64 x0) (mV L) = some (.str g0)) (q1 : lookV (.one .int) false (.str []) (.int .i64 x1) (mV L) = some (.str g1)) (q2 : lookV (.one .int) false (.str []) (.int .i64 x2) (mV L) = some (.str g2)) (z0 : List.length g0 = 64) (z1 : List.length g1 = 64) (z2 : List.length g2 ≠ 64) :
   body1 pA (callD pA tbV la21 6) Y c21 [geo l m r, .int .i64 s, ag b0 b1 b2 b3, .int .i64 x, .map 0] (memO [.map (mV L) c ro]) (endC ⟨[geo l m r, .int .i64 s, ag b0 b1 b2 b3, .int .i64 x, .map 0], [.map (mV L) c ro], .tuple [.str [], .int .i64 1], [.map (mV L) c ro], []⟩) :=
  walkC_of_vc (C := ⟨[geo l m r, .int .i64 s, ag b0 b1 b2 b3, .int .i64 x, .map 0], [.map (mV L) c ro], .tuple [.str [], .int .i64 1], [.map (mV L) c ro], []⟩) (mono21) (.wait 8 (.lay (Lay.new (Hd.slice 3 1) (some [vi 0]) (AObj.cells [vi x0, vi x1, vi x2] false)) (.wait 38 (.res (V.str g0) (.wait 4 (.fix s4 (vi ↑64) (.wait 20 (.res (V.str g1) (.wait 4 (.fix s4 (vi ↑64) (.wait 20 (.res (V.str g2) (.wait 5 (.fix s5 (vb false) .nil))))))))))))))
  (show ((∀ (m' : Mem) (K' : V → Mem → Prop), la21 (.func (.func 19) [] []) ([V.agg [vi l, vi m, vi r], vi s, V.agg [vb b0, vb b1, vb b2, vb b3], vi x]) m' K' = Lay.go (Lay.new (Hd.slice 3 1) (some [vi 0]) (AObj.cells [vi x0, vi x1, vi x2] false)) m' K') ∧ (lookV (KT.one SK.int) false (V.str []) (vi x0) (mV L) = some (V.str g0) ∧ vi ↑(List.length g0) = vi ↑64 ∧ lookV (KT.one SK.int) false (V.str []) (vi x1) (mV L) = some (V.str g1) ∧ vi ↑(List.length g1) = vi ↑64 ∧ lookV (KT.one SK.int) false (V.str []) (vi x2) (mV L) = some (V.str g2) ∧ vb (eqI (↑(List.length g2)) 64) = vb false ∧ V.tuple [V.str [], vi (Int.ofNat 1)] = V.tuple [V.str [], vi 1] ∧ (some (AObj.map (mV L) c ro) = some (AObj.map (mV L) c ro) ∧ True) ∧ True)) from
  ⟨fun m' K' => layE h, ⟨q0, (ci (casN z0)), q1, (ci (casN z1)), q2, (cb (eqF rfl rfl (v21_3_b2_o0 g2 z2))), (by rfl), ⟨(by rfl), trivial⟩, trivial⟩⟩)
  (by kernel_rfl) Y

theorem v210_e_o0 (e : Int) (he : e ≠ (0 : Int)) : ¬e = (0 : Int) := by omega
theorem v210_e (Y : Ys Prop) (l m r s x : Int) (b0 b1 b2 b3 : Bool) (e : Int) (he : e ≠ 0) (h : S19s [geo l m r, .int .i64 s, ag b0 b1 b2 b3, .int .i64 x] = some (Lay.plain (.tuple [.nilslice, .int .i64 e]))) :
   body1 pA (callD pA tbV la21 6) Y c21 [geo l m r, .int .i64 s, ag b0 b1 b2 b3, .int .i64 x, .nilmap] (memO []) (endC ⟨[geo l m r, .int .i64 s, ag b0 b1 b2 b3, .int .i64 x, .nilmap], [], .tuple [.str [], .int .i64 e], [], []⟩) :=
  walkC_of_vc (C := ⟨[geo l m r, .int .i64 s, ag b0 b1 b2 b3, .int .i64 x, .nilmap], [], .tuple [.str [], .int .i64 e], [], []⟩) (mono21) (.wait 8 (.lay (Lay.plain (V.tuple [V.nilslice, vi e])) (.wait 7 (.fix s23 (vb true) .nil))))
  (show ((∀ (m' : Mem) (K' : V → Mem → Prop), la21 (.func (.func 19) [] []) ([V.agg [vi l, vi m, vi r], vi s, V.agg [vb b0, vb b1, vb b2, vb b3], vi x]) m' K' = Lay.go (Lay.plain (V.tuple [V.nilslice, vi e])) m' K') ∧ (vb (nB (eqI e 0)) = vb true ∧ V.tuple [V.str [], vi e] = V.tuple [V.str [], vi e] ∧ True ∧ True)) from
  ⟨fun m' K' => layE h, ⟨cb (congrArg Bool.not (eqF rfl rfl (v210_e_o0 e he))), (by rfl), trivial, trivial⟩⟩)
  (by kernel_rfl) Y


theorem v210_1 (Y : Ys Prop) (l m r s x : Int) (b0 b1 b2 b3 : Bool) (x0 : Int) (h : S19s [geo l m r, .int .i64 s, ag b0 b1 b2 b3, .int .i64 x] = some (Lay.new (Hd.slice 1 1) (some [.int .i64 0]) (AObj.cells [.int .i64 x0] false)))  :
   body1 pA (callD pA tbV la21 6) Y c21 [geo l m r, .int .i64 s, ag b0 b1 b2 b3, .int .i64 x, .nilmap] (memO []) (endC ⟨[geo l m r, .int .i64 s, ag b0 b1 b2 b3, .int .i64 x, .nilmap], [], .tuple [.str [], .int .i64 1], [], []⟩) :=
  walkC_of_vc (C := ⟨[geo l m r, .int .i64 s, ag b0 b1 b2 b3, .int .i64 x, .nilmap], [], .tuple [.str [], .int .i64 1], [], []⟩) (mono21) (.wait 8 (.lay (Lay.new (Hd.slice 1 1) (some [vi 0]) (AObj.cells [vi x0] false)) .nil))
  (show ((∀ (m' : Mem) (K' : V → Mem → Prop), la21 (.func (.func 19) [] []) ([V.agg [vi l, vi m, vi r], vi s, V.agg [vb b0, vb b1, vb b2, vb b3], vi x]) m' K' = Lay.go (Lay.new (Hd.slice 1 1) (some [vi 0]) (AObj.cells [vi x0] false)) m' K') ∧ (V.tuple [V.str [], vi (Int.ofNat 1)] = V.tuple [V.str [], vi 1] ∧ True ∧ True)) from
  ⟨fun m' K' => layE h, ⟨(by rfl), trivial, trivial⟩⟩)
  (by kernel_rfl) Y


theorem v210_2 (Y : Ys Prop) (l m r s x : Int) (b0 b1 b2 b3 : Bool) (x0 x1 : Int) (h : S19s [geo l m r, .int .i64 s, ag b0 b1 b2 b3, .int .i64 x] = some (Lay.new (Hd.slice 2 1) (some [.int .i64 0]) (AObj.cells [.int .i64 x0, .int .i64 x1] false)))  :
   body1 pA (callD pA tbV la21 6) Y c21 [geo l m r, .int .i64 s, ag b0 b1 b2 b3, .int .i64 x, .nilmap] (memO []) (endC ⟨[geo l m r, .int .i64 s, ag b0 b1 b2 b3, .int .i64 x, .nilmap], [], .tuple [.str [], .int .i64 1], [], []⟩) :=
  walkC_of_vc (C := ⟨[geo l m r, .int .i64 s, ag b0 b1 b2 b3, .int .i64 x, .nilmap], [], .tuple [.str [], .int .i64 1], [], []⟩) (mono21) (.wait 8 (.lay (Lay.new (Hd.slice 2 1) (some [vi 0]) (AObj.cells [vi x0, vi x1] false)) .nil))
  (show ((∀ (m' : Mem) (K' : V → Mem → Prop), la21 (.func (.func 19) [] []) ([V.agg [vi l, vi m, vi r], vi s, V.agg [vb b0, vb b1, vb b2, vb b3], vi x]) m' K' = Lay.go (Lay.new (Hd.slice 2 1) (some [vi 0]) (AObj.cells [vi x0, vi x1] false)) m' K') ∧ (V.tuple [V.str [], vi (Int.ofNat 1)] = V.tuple [V.str [], vi 1] ∧ True ∧ True)) from
  ⟨fun m' K' => layE h, ⟨(by rfl), trivial, trivial⟩⟩)
  (by kernel_rfl) Y


theorem v210_3 (Y : Ys Prop) (l m r s x : Int) (b0 b1 b2 b3 : Bool) (x0 x1 x2 : Int) (h : S19s [geo l m r, .int .i64 s, ag b0 b1 b2 b3, .int .i64 x] = some (Lay.new (Hd.slice 3 1) (some [.int .i64 0]) (AObj.cells [.int .i64 x0, .int .i64 x1, .int .i64 x2] false)))  :
   body1 pA (callD pA tbV la21 6) Y c21 [geo l m r, .int .i64 s, ag b0 b1 b2 b3, .int .i64 x, .nilmap] (memO []) (endC ⟨[geo l m r, .int .i64 s, ag b0 b1 b2 b3, .int .i64 x, .nilmap], [], .tuple [.str [], .int .i64 1], [], []⟩) :=
  walkC_of_vc (C := ⟨[geo l m r, .int .i64 s, ag b0 b1 b2 b3, .int .i64 x, .nilmap], [], .tuple [.str [], .int .i64 1], [], []⟩) (mono21) (.wait 8 (.lay (Lay.new (Hd.slice 3 1) (some [vi 0]) (AObj.cells [vi x0, vi x1, vi x2] false)) .nil))
  (show ((∀ (m' : Mem) (K' : V → Mem → Prop), la21 (.func (.func 19) [] []) ([V.agg [vi l, vi m, vi r], vi s, V.agg [vb b0, vb b1, vb b2, vb b3], vi x]) m' K' = Lay.go (Lay.new (Hd.slice 3 1) (some [vi 0]) (AObj.cells [vi x0, vi x1, vi x2] false)) m' K') ∧ (V.tuple [V.str [], vi (Int.ofNat 1)] = V.tuple [V.str [], vi 1] ∧ True ∧ True)) from
  ⟨fun m' K' => layE h, ⟨(by rfl), trivial, trivial⟩⟩)
  (by kernel_rfl) Y

theorem v22_e_o0 (e : Int) (he : e ≠ (0 : Int)) : ¬e = (0 : Int) := by omega
theorem v22_e (Y : Ys Prop) (l m r s x : Int) (b0 b1 b2 b3 : Bool) (L : List (Int × List Nat × Nat)) (c : Nat) (ro : Bool) (e : Int) (he : e ≠ 0) (h : S19s [geo l m r, .int .i64 s, ag b0 b1 b2 b3, .int .i64 x] = some (Lay.plain (.tuple [.nilslice, .int .i64 e]))) :
   body1 pA (callD pA tbV la21 6) Y c22 [geo l m r, .int .i64 s, ag b0 b1 b2 b3, .int .i64 x, .map 0] (memO [.map (mV L) c ro]) (endC ⟨[geo l m r, .int .i64 s, ag b0 b1 b2 b3, .int .i64 x, .map 0], [.map (mV L) c ro], .tuple [.str [], .int .i64 e], [.map (mV L) c ro], []⟩) :=
  walkC_of_vc (C := ⟨[geo l m r, .int .i64 s, ag b0 b1 b2 b3, .int .i64 x, .map 0], [.map (mV L) c ro], .tuple [.str [], .int .i64 e], [.map (mV L) c ro], []⟩) (mono21) (.wait 8 (.lay (Lay.plain (V.tuple [V.nilslice, vi e])) (.wait 7 (.fix s27 (vb true) .nil))))
  (show ((∀ (m' : Mem) (K' : V → Mem → Prop), la21 (.func (.func 20) [] []) ([V.agg [vi l, vi m, vi r], vi s, V.agg [vb b0, vb b1, vb b2, vb b3], vi x]) m' K' = Lay.go (Lay.plain (V.tuple [V.nilslice, vi e])) m' K') ∧ (vb (nB (eqI e 0)) = vb true ∧ V.tuple [V.str [], vi e] = V.tuple [V.str [], vi e] ∧ (some (AObj.map (mV L) c ro) = some (AObj.map (mV L) c ro) ∧ True) ∧ True)) from
  ⟨fun m' K' => layE h, ⟨cb (congrArg Bool.not (eqF rfl rfl (v22_e_o0 e he))), (by rfl), ⟨(by rfl), trivial⟩, trivial⟩⟩)
  (by kernel_rfl) Y


theorem v22_1_ok (Y : Ys Prop) (l m r s x : Int) (b0 b1 b2 b3 : Bool) (L : List (Int × List Nat × Nat)) (c : Nat) (ro : Bool) (x0 : Int) (h : S19s [geo l m r, .int .i64 s, ag b0 b1 b2 b3, .int .i64 x] = some (Lay.new (Hd.slice 1 1) (some [.int .i64 0]) (AObj.cells [.int .i64 x0] false))) (g0 X : List Nat) (q0 : lookV (.one .int) false (.str []) (.int .i64 x0) (mV L) = some (.str g0)) (z0 : List.length g0 = 64) (hX : S46 ⟨[.slice 0 0 1 1 1], [.cells [.str g0] false], .tuple [.str X, .bool true], [.cells [.str g0] false], []⟩) :
   body1 pA (callD pA tbV la21 6) Y c22 [geo l m r, .int .i64 s, ag b0 b1 b2 b3, .int .i64 x, .map 0] (memO [.map (mV L) c ro]) (endC ⟨[geo l m r, .int .i64 s, ag b0 b1 b2 b3, .int .i64 x, .map 0], [.map (mV L) c ro], .tuple [.str X, .int .i64 0], [.map (mV L) c ro], []⟩) :=
  walkC_of_vc (C := ⟨[geo l m r, .int .i64 s, ag b0 b1 b2 b3, .int .i64 x, .map 0], [.map (mV L) c ro], .tuple [.str X, .int .i64 0], [.map (mV L) c ro], []⟩) (mono21) (.wait 8 (.lay (Lay.new (Hd.slice 1 1) (some [vi 0]) (AObj.cells [vi x0] false)) (.wait 26 (.res (V.str g0) (.wait 1 (.fix s20 (vi ↑64) (.wait 8 (.res (V.str g0) (.wait 23 (.con ({ args := [V.slice 0 0 1 1 1], pre := [AObj.cells [V.str g0] false], ans := V.tuple [V.str X, vb true], old := [AObj.cells [V.str g0] false], new := [] }) [5] .nil))))))))))
  (show ((∀ (m' : Mem) (K' : V → Mem → Prop), la21 (.func (.func 20) [] []) ([V.agg [vi l, vi m, vi r], vi s, V.agg [vb b0, vb b1, vb b2, vb b3], vi x]) m' K' = Lay.go (Lay.new (Hd.slice 1 1) (some [vi 0]) (AObj.cells [vi x0] false)) m' K') ∧ (lookV (KT.one SK.int) false (V.str []) (vi x0) (mV L) = some (V.str g0) ∧ vi ↑(List.length g0) = vi ↑64 ∧ lookV (KT.one SK.int) false (V.str []) (vi x0) (mV L) = some (V.str g0) ∧ (∀ (m' : Mem) (K' : V → Mem → Prop), ConAt ({ args := [V.slice 0 0 1 1 1], pre := [AObj.cells [V.str g0] false], ans := V.tuple [V.str X, vb true], old := [AObj.cells [V.str g0] false], new := [] }) (nthD [5]) ([V.slice 5 0 1 1 1]) m' → K' (V.ren (Con.tau ({ args := [V.slice 0 0 1 1 1], pre := [AObj.cells [V.str g0] false], ans := V.tuple [V.str X, vb true], old := [AObj.cells [V.str g0] false], new := [] }) (nthD [5]) (Mem.next m')) (Con.ans ({ args := [V.slice 0 0 1 1 1], pre := [AObj.cells [V.str g0] false], ans := V.tuple [V.str X, vb true], old := [AObj.cells [V.str g0] false], new := [] }))) (Con.mem ({ args := [V.slice 0 0 1 1 1], pre := [AObj.cells [V.str g0] false], ans := V.tuple [V.str X, vb true], old := [AObj.cells [V.str g0] false], new := [] }) (nthD [5]) m') → la21 (.func (.func 46) [] []) ([V.slice 5 0 1 1 1]) m' K') ∧ Con.wf ({ args := [V.slice 0 0 1 1 1], pre := [AObj.cells [V.str g0] false], ans := V.tuple [V.str X, vb true], old := [AObj.cells [V.str g0] false], new := [] }) = true ∧ true = true ∧ [V.slice 5 0 1 1 1] = rens (nthD [5]) ([V.slice 0 0 1 1 1]) ∧ (some (AObj.cells [V.str g0] false) = some (AObj.ren (nthD [5]) (AObj.cells [V.str g0] false)) ∧ True) ∧ (V.tuple [V.str X, vi (Int.ofNat 0)] = V.tuple [V.str X, vi 0] ∧ (some (AObj.map (mV L) c ro) = some (AObj.map (mV L) c ro) ∧ True) ∧ True))) from
  ⟨fun m' K' => layE h, ⟨q0, (ci (casN z0)), q0, fun m' K' h1 h2 => conMiss rfl (conIn (hX) h1 h2), (by kernel_rfl), rfl, rfl, ⟨rfl, trivial⟩, ⟨(by rfl), ⟨(by rfl), trivial⟩, trivial⟩⟩⟩)
  (by kernel_rfl) Y

theorem v22_1_b0_o0 (g0 : List Nat) (z0 : List.length g0 ≠ (64 : Nat)) : ¬(↑(List.length g0) : Int) = (64 : Int) := by omega
theorem v22_1_b0 (Y : Ys Prop) (l m r s x : Int) (b0 b1 b2 b3 : Bool) (L : List (Int × List Nat × Nat)) (c : Nat) (ro : Bool) (x0 : Int) (h : S19s [geo l m r, .int .i64 s, ag b0 b1 b2 b3, .int .i64 x] = some (Lay.new (Hd.slice 1 1) (some [.int .i64 0]) (AObj.cells [.int .i64 x0] false))) (g0 : List Nat) (q0 : lookV (.one .int) false (.str []) (.int .i64 x0) (mV L) = some (.str g0)) (z0 : List.length g0 ≠ 64) :
   body1 pA (callD pA tbV la21 6) Y c22 [geo l m r, .int .i64 s, ag b0 b1 b2 b3, .int .i64 x, .map 0] (memO [.map (mV L) c ro]) (endC ⟨[geo l m r, .int .i64 s, ag b0 b1 b2 b3, .int .i64 x, .map 0], [.map (mV L) c ro], .tuple [.str [], .int .i64 1], [.map (mV L) c ro], []⟩) :=
  walkC_of_vc (C := ⟨[geo l m r, .int .i64 s, ag b0 b1 b2 b3, .int .i64 x, .map 0], [.map (mV L) c ro], .tuple [.str [], .int .i64 1], [.map (mV L) c ro], []⟩) (mono21) (.wait 8 (.lay (Lay.new (Hd.slice 1 1) (some [vi 0]) (AObj.cells [vi x0] false)) (.wait 26 (.res (V.str g0) (.wait 2 (.fix s21 (vb true) .nil))))))
  (show ((∀ (m' : Mem) (K' : V → Mem → Prop), la21 (.func (.func 20) [] []) ([V.agg [vi l, vi m, vi r], vi s, V.agg [vb b0, vb b1, vb b2, vb b3], vi x]) m' K' = Lay.go (Lay.new (Hd.slice 1 1) (some [vi 0]) (AObj.cells [vi x0] false)) m' K') ∧ (lookV (KT.one SK.int) false (V.str []) (vi x0) (mV L) = some (V.str g0) ∧ vb (nB (eqI (↑(List.length g0)) 64)) = vb true ∧ V.tuple [V.str [], vi (Int.ofNat 1)] = V.tuple [V.str [], vi 1] ∧ (some (AObj.map (mV L) c ro) = some (AObj.map (mV L) c ro) ∧ True) ∧ True)) from
  ⟨fun m' K' => layE h, ⟨q0, cb (congrArg Bool.not (eqF rfl rfl (v22_1_b0_o0 g0 z0))), (by rfl), ⟨(by rfl), trivial⟩, trivial⟩⟩)
  (by kernel_rfl) Y


theorem v22_2_ok (Y : Ys Prop) (l m r s x : Int) (b0 b1 b2 b3 : Bool) (L : List (Int × List Nat × Nat)) (c : Nat) (ro : Bool) (x0 x1 : Int) (h : S19s [geo l m r, .int .i64 s, ag b0 b1 b2 b3, .int .i64 x] = some (Lay.new (Hd.slice 2 1) (some [.int .i64 0]) (AObj.cells [.int .i64 x0, .int .i64 x1] false))) (g0 g1 X : List Nat) (q0 : lookV (.one .int) false (.str []) (.int .i64 x0) (mV L) = some (.str g0)) (q1 : lookV (.one .int) false (.str []) (.int .i64 x1) (mV L) = some (.str g1)) (z0 : List.length g0 = 64) (z1 : List.length g1 = 64) (hX : S46 ⟨[.slice 0 0 2 2 1], [.cells [.str g0, .str g1] false], .tuple [.str X, .bool true], [.cells [.str g0, .str g1] false], []⟩) :
   body1 pA (callD pA tbV la21 6) Y c22 [geo l m r, .int .i64 s, ag b0 b1 b2 b3, .int .i64 x, .map 0] (memO [.map (mV L) c ro]) (endC ⟨[geo l m r, .int .i64 s, ag b0 b1 b2 b3, .int .i64 x, .map 0], [.map (mV L) c ro], .tuple [.str X, .int .i64 0], [.map (mV L) c ro], []⟩) :=
  walkC_of_vc (C := ⟨[geo l m r, .int .i64 s, ag b0 b1 b2 b3, .int .i64 x, .map 0], [.map (mV L) c ro], .tuple [.str X, .int .i64 0], [.map (mV L) c ro], []⟩) (mono21) (.wait 8 (.lay (Lay.new (Hd.slice 2 1) (some [vi 0]) (AObj.cells [vi x0, vi x1] false)) (.wait 26 (.res (V.str g0) (.wait 1 (.fix s20 (vi ↑64) (.wait 8 (.res (V.str g0) (.wait 16 (.res (V.str g1) (.wait 1 (.fix s20 (vi ↑64) (.wait 8 (.res (V.str g1) (.wait 23 (.con ({ args := [V.slice 0 0 2 2 1], pre := [AObj.cells [V.str g0, V.str g1] false], ans := V.tuple [V.str X, vb true], old := [AObj.cells [V.str g0, V.str g1] false], new := [] }) [7] .nil))))))))))))))))
  (show ((∀ (m' : Mem) (K' : V → Mem → Prop), la21 (.func (.func 20) [] []) ([V.agg [vi l, vi m, vi r], vi s, V.agg [vb b0, vb b1, vb b2, vb b3], vi x]) m' K' = Lay.go (Lay.new (Hd.slice 2 1) (some [vi 0]) (AObj.cells [vi x0, vi x1] false)) m' K') ∧ (lookV (KT.one SK.int) false (V.str []) (vi x0) (mV L) = some (V.str g0) ∧ vi ↑(List.length g0) = vi ↑64 ∧ lookV (KT.one SK.int) false (V.str []) (vi x0) (mV L) = some (V.str g0) ∧ lookV (KT.one SK.int) false (V.str []) (vi x1) (mV L) = some (V.str g1) ∧ vi ↑(List.length g1) = vi ↑64 ∧ lookV (KT.one SK.int) false (V.str []) (vi x1) (mV L) = some (V.str g1) ∧ (∀ (m' : Mem) (K' : V → Mem → Prop), ConAt ({ args := [V.slice 0 0 2 2 1], pre := [AObj.cells [V.str g0, V.str g1] false], ans := V.tuple [V.str X, vb true], old := [AObj.cells [V.str g0, V.str g1] false], new := [] }) (nthD [7]) ([V.slice 7 0 2 2 1]) m' → K' (V.ren (Con.tau ({ args := [V.slice 0 0 2 2 1], pre := [AObj.cells [V.str g0, V.str g1] false], ans := V.tuple [V.str X, vb true], old := [AObj.cells [V.str g0, V.str g1] false], new := [] }) (nthD [7]) (Mem.next m')) (Con.ans ({ args := [V.slice 0 0 2 2 1], pre := [AObj.cells [V.str g0, V.str g1] false], ans := V.tuple [V.str X, vb true], old := [AObj.cells [V.str g0, V.str g1] false], new := [] }))) (Con.mem ({ args := [V.slice 0 0 2 2 1], pre := [AObj.cells [V.str g0, V.str g1] false], ans := V.tuple [V.str X, vb true], old := [AObj.cells [V.str g0, V.str g1] false], new := [] }) (nthD [7]) m') → la21 (.func (.func 46) [] []) ([V.slice 7 0 2 2 1]) m' K') ∧ Con.wf ({ args := [V.slice 0 0 2 2 1], pre := [AObj.cells [V.str g0, V.str g1] false], ans := V.tuple [V.str X, vb true], old := [AObj.cells [V.str g0, V.str g1] false], new := [] }) = true ∧ true = true ∧ [V.slice 7 0 2 2 1] = rens (nthD [7]) ([V.slice 0 0 2 2 1]) ∧ (some (AObj.cells [V.str g0, V.str g1] false) = some (AObj.ren (nthD [7]) (AObj.cells [V.str g0, V.str g1] false)) ∧ True) ∧ (V.tuple [V.str X, vi (Int.ofNat 0)] = V.tuple [V.str X, vi 0] ∧ (some (AObj.map (mV L) c ro) = some (AObj.map (mV L) c ro) ∧ True) ∧ True))) from
  ⟨fun m' K' => layE h, ⟨q0, (ci (casN z0)), q0, q1, (ci (casN z1)), q1, fun m' K' h1 h2 => conMiss rfl (conIn (hX) h1 h2), (by kernel_rfl), rfl, rfl, ⟨rfl, trivial⟩, ⟨(by rfl), ⟨(by rfl), trivial⟩, trivial⟩⟩⟩)
  (by kernel_rfl) Y

theorem v22_2_b0_o0 (g0 : List Nat) (z0 : List.length g0 ≠ (64 : Nat)) : ¬(↑(List.length g0) : Int) = (64 : Int) := by omega
theorem v22_2_b0 (Y : Ys Prop) (l m r s x : Int) (b0 b1 b2 b3 : Bool) (L : List (Int × List Nat × Nat)) (c : Nat) (ro : Bool) (x0 x1 : Int) (h : S19s [geo l m r, .int .i64 s, ag b0 b1 b2 b3, .int .i64 x] = some (Lay.new (Hd.slice 2 1) (some [.int .i64 0]) (AObj.cells [.int .i64 x0, .int .i64 x1] false))) (g0 g1 : List Nat) (q0 : lookV (.one .int) false (.str []) (.int .i64 x0) (mV L) = some (.str g0)) (q1 : lookV (.one .int) false (.str []) (.int .i64 x1) (mV L) = some (.str g1)) (z0 : List.length g0 ≠ 64) :
   body1 pA (callD pA tbV la21 6) Y c22 [geo l m r, .int .i64 s, ag b0 b1 b2 b3, .int .i64 x, .map 0] (memO [.map (mV L) c ro]) (endC ⟨[geo l m r, .int .i64 s, ag b0 b1 b2 b3, .int .i64 x, .map 0], [.map (mV L) c ro], .tuple [.str [], .int .i64 1], [.map (mV L) c ro], []⟩) :=
  walkC_of_vc (C := ⟨[geo l m r, .int .i64 s, ag b0 b1 b2 b3, .int .i64 x, .map 0], [.map (mV L) c ro], .tuple [.str [], .int .i64 1], [.map (mV L) c ro], []⟩) (mono21) (.wait 8 (.lay (Lay.new (Hd.slice 2 1) (some [vi 0]) (AObj.cells [vi x0, vi x1] false)) (.wait 26 (.res (V.str g0) (.wait 2 (.fix s21 (vb true) .nil))))))
  (show ((∀ (m' : Mem) (K' : V → Mem → Prop), la21 (.func (.func 20) [] []) ([V.agg [vi l, vi m, vi r], vi s, V.agg [vb b0, vb b1, vb b2, vb b3], vi x]) m' K' = Lay.go (Lay.new (Hd.slice 2 1) (some [vi 0]) (AObj.cells [vi x0, vi x1] false)) m' K') ∧ (lookV (KT.one SK.int) false (V.str []) (vi x0) (mV L) = some (V.str g0) ∧ vb (nB (eqI (↑(List.length g0)) 64)) = vb true ∧ V.tuple [V.str [], vi (Int.ofNat 1)] = V.tuple [V.str [], vi 1] ∧ (some (AObj.map (mV L) c ro) = some (AObj.map (mV L) c ro) ∧ True) ∧ True)) from
  ⟨fun m' K' => layE h, ⟨q0, cb (congrArg Bool.not (eqF rfl rfl (v22_2_b0_o0 g0 z0))), (by rfl), ⟨(by rfl), trivial⟩, trivial⟩⟩)
  (by kernel_rfl) Y

theorem v22_2_b1_o0 (g1 : List Nat) (z1 : List.length g1 ≠ (64 : Nat)) : ¬(↑(List.length g1) : Int) = (64 : Int) := by omega
theorem v22_2_b1 (Y : Ys Prop) (l m r s x : Int) (b0 b1 b2 b3 : Bool) (L : List (Int × List Nat × Nat)) (c : Nat) (ro : Bool) (x0 x1 : Int) (h : S19s [geo l m r, .int .i64 s, ag b0 b1 b2 b3, .int .i64 x] = some (Lay.new (Hd.slice 2 1) (some [.int .i64 0]) (AObj.cells [.int .i64 x0, .int .i64 x1] false))) (g0 g1 : List Nat) (q0 : lookV (.one .int) false (.str []) (.int .i64 x0) (mV L) = some (.str g0)) (q1 : lookV (.one .int) false (.str []) (.int .i64 x1) (mV L) = some (.str g1)) (z0 : List.length g0 = 64) (z1 : List.length g1 ≠ 64) :
   body1 pA (callD pA tbV la21 6) Y c22 [geo l m r, .int .i64 s, ag b0 b1 b2 b3, .int .i64 x, .map 0] (memO [.map (mV L) c ro]) (endC ⟨[geo l m r, .int .i64 s, ag b0 b1 b2 b3, .int .i64 x, .map 0], [.map (mV L) c ro], .tuple [.str [], .int .i64 1], [.map (mV L) c ro], []⟩) :=
  walkC_of_vc (C := ⟨[geo l m r, .int .i64 s, ag b0 b1 b2 b3, .int .i64 x, .map 0], [.map (mV L) c ro], .tuple [.str [], .int .i64 1], [.map (mV L) c ro], []⟩) (mono21) (.wait 8 (.lay (Lay.new (Hd.slice 2 1) (some [vi 0]) (AObj.cells [vi x0, vi x1] false)) (.wait 26 (.res (V.str g0) (.wait 1 (.fix s20 (vi ↑64) (.wait 8 (.res (V.str g0) (.wait 16 (.res (V.str g1) (.wait 2 (.fix s21 (vb true) .nil))))))))))))
  (show ((∀ (m' : Mem) (K' : V → Mem → Prop), la21 (.func (.func 20) [] []) ([V.agg [vi l, vi m, vi r], vi s, V.agg [vb b0, vb b1, vb b2, vb b3], vi x]) m' K' = Lay.go (Lay.new (Hd.slice 2 1) (some [vi 0]) (AObj.cells [vi x0, vi x1] false)) m' K') ∧ (lookV (KT.one SK.int) false (V.str []) (vi x0) (mV L) = some (V.str g0) ∧ vi ↑(List.length g0) = vi ↑64 ∧ lookV (KT.one SK.int) false (V.str []) (vi x0) (mV L) = some (V.str g0) ∧ lookV (KT.one SK.int) false (V.str []) (vi x1) (mV L) = some (V.str g1) ∧ vb (nB (eqI (↑(List.length g1)) 64)) = vb true ∧ V.tuple [V.str [], vi (Int.ofNat 1)] = V.tuple [V.str [], vi 1] ∧ (some (AObj.map (mV L) c ro) = some (AObj.map (mV L) c ro) ∧ True) ∧ True)) from
  ⟨fun m' K' => layE h, ⟨q0, (ci (casN z0)), q0, q1, cb (congrArg Bool.not (eqF rfl rfl (v22_2_b1_o0 g1 z1))), (by rfl), ⟨(by rfl), trivial⟩, trivial⟩⟩)
  (by kernel_rfl) Y


theorem v22_3_ok (Y : Ys Prop) (l m r s x : Int) (b0 b1 b2 b3 : Bool) (L : List (Int × List Nat × Nat)) (c : Nat) (ro : Bool) (x0 x1 x2 : Int) (h : S19s [geo l m r, .int .i64 s, ag b0 b1 b2 b3, .int .i64 x] = some (Lay.new (Hd.slice 3 1) (some [.int .i64 0]) (AObj.cells [.int .i64 x0, .int .i64 x1, .int .i64 x2] false))) (g0 g1 g2 X : List Nat) (q0 : lookV (.one .int) false (.str []) (.int .i64 x0) (mV L) = some (.str g0)) (q1 : lookV (.one .int) false (.str []) (.int .i64 x1) (mV L) = some (.str g1)) (q2 : lookV (.one .int) false (.str []) (.int .i64 x2) (mV L) = some (.str g2)) (z0 : List.length g0 = 64) (z1 : List.length g1 = 64) (z2 : List.length g2 = 64) (hX : S46 ⟨[.slice 0 0 3 3 1], [.cells [.str g0, .str g1, .str g2] false], .tuple [.str X, .bool true], [.cells [.str g0, .str g1, .str g2] false], []⟩) :
   body1 pA (callD pA tbV la21 6) Y c22 [geo l m r, .int .i64 s, ag b0 b1 b2 b3, .int .i64 x, .map 0] (memO [.map (mV L) c ro]) (endC ⟨[geo l m r, .int .i64 s, ag b0 b1 b2 b3, .int .i64 x, .map 0], [.map (mV L) c ro], .tuple [.str X, .int .i64 0], [.map (mV L) c ro], []⟩) :=
  walkC_of_vc (C := ⟨[geo l m r, .int .i64 s, ag b0 b1 b2 b3, .int .i64 x, .map 0], [.map (mV L) c ro], .tuple [.str X, .int .i64 0], [.map (mV L) c ro], []⟩) (mono21) (.wait 8 (.lay (Lay.new (Hd.slice 3 1) (some [vi 0]) (AObj.cells [vi x0, vi x1, vi x2] false)) (.wait 26 (.res (V.str g0) (.wait 1 (.fix s20 (vi ↑64) (.wait 8 (.res (V.str g0) (.wait 16 (.res (V.str g1) (.wait 1 (.fix s20 (vi ↑64) (.wait 8 (.res (V.str g1) (.wait 16 (.res (V.str g2) (.wait 1 (.fix s20 (vi ↑64) (.wait 8 (.res (V.str g2) (.wait 23 (.con ({ args := [V.slice 0 0 3 3 1], pre := [AObj.cells [V.str g0, V.str g1, V.str g2] false], ans := V.tuple [V.str X, vb true], old := [AObj.cells [V.str g0, V.str g1, V.str g2] false], new := [] }) [9] .nil))))))))))))))))))))))
  (show ((∀ (m' : Mem) (K' : V → Mem → Prop), la21 (.func (.func 20) [] []) ([V.agg [vi l, vi m, vi r], vi s, V.agg [vb b0, vb b1, vb b2, vb b3], vi x]) m' K' = Lay.go (Lay.new (Hd.slice 3 1) (some [vi 0]) (AObj.cells [vi x0, vi x1, vi x2] false)) m' K') ∧ (lookV (KT.one SK.int) false (V.str []) (vi x0) (mV L) = some (V.str g0) ∧ vi ↑(List.length g0) = vi ↑64 ∧ lookV (KT.one SK.int) false (V.str []) (vi x0) (mV L) = some (V.str g0) ∧ lookV (KT.one SK.int) false (V.str []) (vi x1) (mV L) = some (V.str g1) ∧ vi ↑(List.length g1) = vi ↑64 ∧ lookV (KT.one SK.int) false (V.str []) (vi x1) (mV L) = some (V.str g1) ∧ lookV (KT.one SK.int) false (V.str []) (vi x2) (mV L) = some (V.str g2) ∧ vi ↑(List.length g2) = vi ↑64 ∧ lookV (KT.one SK.int) false (V.str []) (vi x2) (mV L) = some (V.str g2) ∧ (∀ (m' : Mem) (K' : V → Mem → Prop), ConAt ({ args := [V.slice 0 0 3 3 1], pre := [AObj.cells [V.str g0, V.str g1, V.str g2] false], ans := V.tuple [V.str X, vb true], old := [AObj.cells [V.str g0, V.str g1, V.str g2] false], new := [] }) (nthD [9]) ([V.slice 9 0 3 3 1]) m' → K' (V.ren (Con.tau ({ args := [V.slice 0 0 3 3 1], pre := [AObj.cells [V.str g0, V.str g1, V.str g2] false], ans := V.tuple [V.str X, vb true], old := [AObj.cells [V.str g0, V.str g1, V.str g2] false], new := [] }) (nthD [9]) (Mem.next m')) (Con.ans ({ args := [V.slice 0 0 3 3 1], pre := [AObj.cells [V.str g0, V.str g1, V.str g2] false], ans := V.tuple [V.str X, vb true], old := [AObj.cells [V.str g0, V.str g1, V.str g2] false], new := [] }))) (Con.mem ({ args := [V.slice 0 0 3 3 1], pre := [AObj.cells [V.str g0, V.str g1, V.str g2] false], ans := V.tuple [V.str X, vb true], old := [AObj.cells [V.str g0, V.str g1, V.str g2] false], new := [] }) (nthD [9]) m') → la21 (.func (.func 46) [] []) ([V.slice 9 0 3 3 1]) m' K') ∧ Con.wf ({ args := [V.slice 0 0 3 3 1], pre := [AObj.cells [V.str g0, V.str g1, V.str g2] false], ans := V.tuple [V.str X, vb true], old := [AObj.cells [V.str g0, V.str g1, V.str g2] false], new := [] }) = true ∧ true = true ∧ [V.slice 9 0 3 3 1] = rens (nthD [9]) ([V.slice 0 0 3 3 1]) ∧ (some (AObj.cells [V.str g0, V.str g1, V.str g2] false) = some (AObj.ren (nthD [9]) (AObj.cells [V.str g0, V.str g1, V.str g2] false)) ∧ True) ∧ (V.tuple [V.str X, vi (Int.ofNat 0)] = V.tuple [V.str X, vi 0] ∧ (some (AObj.map (mV L) c ro) = some (AObj.map (mV L) c ro) ∧ True) ∧ True))) from
  ⟨fun m' K' => layE h, ⟨q0, (ci (casN z0)), q0, q1, (ci (casN z1)), q1, q2, (ci (casN z2)), q2, fun m' K' h1 h2 => conMiss rfl (conIn (hX) h1 h2), (by kernel_rfl), rfl, rfl, ⟨rfl, trivial⟩, ⟨(by rfl), ⟨(by rfl), trivial⟩, trivial⟩⟩⟩)
  (by kernel_rfl) Y

theorem v22_3_b0_o0 (g0 : List Nat) (z0 : List.length g0 ≠ (64 : Nat)) : ¬(↑(List.length g0) : Int) = (64 : Int) := by omega
theorem v22_3_b0 (Y : Ys Prop) (l m r s x : Int) (b0 b1 b2 b3 : Bool) (L : List (Int × List Nat × Nat)) (c : Nat) (ro : Bool) (x0 x1 x2 : Int) (h : S19s [geo l m r, .int .i64 s, ag b0 b1 b2 b3, .int .i64 x] = some (Lay.new (Hd.slice 3 1) (some [.int .i64 0]) (AObj.cells [.int .i64 x0, .int .i64 x1, .int .i64 x2] false))) (g0 g1 g2 : List Nat) (q0 : lookV (.one .int) false (.str []) (.int .i64 x0) (mV L) = some (.str g0)) (q1 : lookV (.one .int) false (.str []) (.int .i64 x1) (mV L) = some (.str g1)) (q2 : lookV (.one .int) false (.str []) (.int .i64 x2) (mV L) = some (.str g2)) (z0 : List.length g0 ≠ 64) :
   body1 pA (callD pA tbV la21 6) Y c22 [geo l m r, .int .i64 s, ag b0 b1 b2 b3, .int .i64 x, .map 0] (memO [.map (mV L) c ro]) (endC ⟨[geo l m r, .int .i64 s, ag b0 b1 b2 b3, .int .i64 x, .map 0], [.map (mV L) c ro], .tuple [.str [], .int .i64 1], [.map (mV L) c ro], []⟩) :=
  walkC_of_vc (C := ⟨[geo l m r, .int .i64 s, ag b0 b1 b2 b3, .int .i64 x, .map 0], [.map (mV L) c ro], .tuple [.str [], .int .i64 1], [.map (mV L) c ro], []⟩) (mono21) (.wait 8 (.lay (Lay.new (Hd.slice 3 1) (some [vi 0]) (AObj.cells [vi x0, vi x1, vi x2] false)) (.wait 26 (.res (V.str g0) (.wait 2 (.fix s21 (vb true) .nil))))))
  (show ((∀ (m' : Mem) (K' : V → Mem → Prop), la21 (.func (.func 20) [] []) ([V.agg [vi l, vi m, vi r], vi s, V.agg [vb b0, vb b1, vb b2, vb b3], vi x]) m' K' = Lay.go (Lay.new (Hd.slice 3 1) (some [vi 0]) (AObj.cells [vi x0, vi x1, vi x2] false)) m' K') ∧ (lookV (KT.one SK.int) false (V.str []) (vi x0) (mV L) = some (V.str g0) ∧ vb (nB (eqI (↑(List.length g0)) 64)) = vb true ∧ V.tuple [V.str [], vi (Int.ofNat 1)] = V.tuple [V.str [], vi 1] ∧ (some (AObj.map (mV L) c ro) = some (AObj.map (mV L) c ro) ∧ True) ∧ True)) from
  ⟨fun m' K' => layE h, ⟨q0, cb (congrArg Bool.not (eqF rfl rfl (v22_3_b0_o0 g0 z0))), (by rfl), ⟨(by rfl), trivial⟩, trivial⟩⟩)
  (by kernel_rfl) Y

theorem v22_3_b1_o0 (g1 : List Nat) (z1 : List.length g1 ≠ (64 : Nat)) : ¬(↑(List.length g1) : Int) = (64 : Int) := by omega
theorem v22_3_b1 (Y : Ys Prop) (l m r s x : Int) (b0 b1 b2 b3 : Bool) (L : List (Int × List Nat × Nat)) (c : Nat) (ro : Bool) (x0 x1 x2 : Int) (h : S19s [geo l m r, .int .i64 s, ag b0 b1 b2 b3, .int .i64 x] = some (Lay.new (Hd.slice 3 1) (some [.int .i64 0]) (AObj.cells [.int .i64 x0, .int .i64 x1, .int .i64 x2] false))) (g0 g1 g2 : List Nat) (q0 : lookV (.one .int) false (.str []) (.int .i64 x0) (mV L) = some (.str g0)) (q1 : lookV (.one .int) false (.str []) (.int .i64 x1) (mV L) = some (.str g1)) (q2 : lookV (.one .int) false (.str []) (.int .i64 x2) (mV L) = some (.str g2)) (z0 : List.length g0 = 64) (z1 : List.length g1 ≠ 64) :
   body1 pA (callD pA tbV la21 6) Y c22 [geo l m r, .int .i64 s, ag b0 b1 b2 b3, .int .i64 x, .map 0] (memO [.map (mV L) c ro]) (endC ⟨[geo l m r, .int .i64 s, ag b0 b1 b2 b3, .int .i64 x, .map 0], [.map (mV L) c ro], .tuple [.str [], .int .i64 1], [.map (mV L) c ro], []⟩) :=
  walkC_of_vc (C := ⟨[geo l m r, .int .i64 s, ag b0 b1 b2 b3, .int .i64 x, .map 0], [.map (mV L) c ro], .tuple [.str [], .int .i64 1], [.map (mV L) c ro], []⟩) (mono21) (.wait 8 (.lay (Lay.new (Hd.slice 3 1) (some [vi 0]) (AObj.cells [vi x0, vi x1, vi x2] false)) (.wait 26 (.res (V.str g0) (.wait 1 (.fix s20 (vi ↑64) (.wait 8 (.res (V.str g0) (.wait 16 (.res (V.str g1) (.wait 2 (.fix s21 (vb true) .nil))))))))))))
  (show ((∀ (m' : Mem) (K' : V → Mem → Prop), la21 (.func (.func 20) [] []) ([V.agg [vi l, vi m, vi r], vi s, V.agg [vb b0, vb b1, vb b2, vb b3], vi x]) m' K' = Lay.go (Lay.new (Hd.slice 3 1) (some [vi 0]) (AObj.cells [vi x0, vi x1, vi x2] false)) m' K') ∧ (lookV (KT.one SK.int) false (V.str []) (vi x0) (mV L) = some (V.str g0) ∧ vi ↑(List.length g0) = vi ↑64 ∧ lookV (KT.one SK.int) false (V.str []) (vi x0) (mV L) = some (V.str g0) ∧ lookV (KT.one SK.int) false (V.str []) (vi x1) (mV L) = some (V.str g1) ∧ vb (nB (eqI (↑(List.length g1)) 64)) = vb true ∧ V.tuple [V.str [], vi (Int.ofNat 1)] = V.tuple [V.str [], vi 1] ∧ (some (AObj.map (mV L) c ro) = some (AObj.map (mV L) c ro) ∧ True) ∧ True)) from
  ⟨fun m' K' => layE h, ⟨q0, (ci (casN z0)), q0, q1, cb (congrArg Bool.not (eqF rfl rfl (v22_3_b1_o0 g1 z1))), (by rfl), ⟨(by rfl), trivial⟩, trivial⟩⟩)
  (by kernel_rfl) Y

theorem v22_3_b2_o0 (g2 : List Nat) (z2 : List.length g2 ≠ (64 : Nat)) : ¬(↑(List.length g2) : Int) = (64 : Int) := by omega
theorem v22_3_b2 (Y : Ys Prop) (l m r s x : Int) (b0 b1 b2 b3 : Bool) (L : List (Int × List Nat × Nat)) (c : Nat) (ro : Bool) (x0 x1 x2 : Int) (h : S19s [geo l m r, .int .i64 s, ag b0 b1 b2 b3, .int .i64 x] = some (Lay.new (Hd.slice 3 1) (some [.int .i64 0]) (AObj.cells [.int .i64 x0, .int .i64 x1, .int .i64 x2] false))) (g0 g1 g2 : List Nat) (q0 : lookV (.one .int) false (.str []) (.int .i64 x0) (mV L) = some (.str g0)) (q1 : lookV (.one .int) false (.str []) (.int .i64 x1) (mV L) = some (.str g1)) (q2 : lookV (.one .int) false (.str []) (.int .i64 x2) (mV L) = some (.str g2)) (z0 : List.length g0 = 64) (z1 : List.length g1 = 64) (z2 : List.length g2 ≠ 64) :
   body1 pA (callD pA tbV la21 6) Y c22 [geo l m r, .int .i64 s, ag b0 b1 b2 b3, .int .i64 x, .map 0] (memO [.map (mV L) c ro]) (endC ⟨[geo l m r, .int .i64 s, ag b0 b1 b2 b3, .int .i64 x, .map 0], [.map (mV L) c ro], .tuple [.str [], .int .i64 1], [.map (mV L) c ro], []⟩) :=
  walkC_of_vc (C := ⟨[geo l m r, .int .i64 s, ag b0 b1 b2 b3, .int .i64 x, .map 0], [.map (mV L) c ro], .tuple [.str [], .int .i64 1], [.map (mV L) c ro], []⟩) (mono21) (.wait 8 (.lay (Lay.new (Hd.slice 3 1) (some [vi 0]) (AObj.cells [vi x0, vi x1, vi x2] false)) (.wait 26 (.res (V.str g0) (.wait 1 (.fix s20 (vi ↑64) (.wait 8 (.res (V.str g0) (.wait 16 (.res (V.str g1) (.wait 1 (.fix s20 (vi ↑64) (.wait 8 (.res (V.str g1) (.wait 16 (.res (V.str g2) (.wait 2 (.fix s21 (vb true) .nil))))))))))))))))))
  (show ((∀ (m' : Mem) (K' : V → Mem → Prop), la21 (.func (.func 20) [] []) ([V.agg [vi l, vi m, vi r], vi s, V.agg [vb b0, vb b1, vb b2, vb b3], vi x]) m' K' = Lay.go (Lay.new (Hd.slice 3 1) (some [vi 0]) (AObj.cells [vi x0, vi x1, vi x2] false)) m' K') ∧ (lookV (KT.one SK.int) false (V.str []) (vi x0) (mV L) = some (V.str g0) ∧ vi ↑(List.length g0) = vi ↑64 ∧ lookV (KT.one SK.int) false (V.str []) (vi x0) (mV L) = some (V.str g0) ∧ lookV (KT.one SK.int) false (V.str []) (vi x1) (mV L) = some (V.str g1) ∧ vi ↑(List.length g1) = vi ↑64 ∧ lookV (KT.one SK.int) false (V.str []) (vi x1) (mV L) = some (V.str g1) ∧ lookV (KT.one SK.int) false (V.str []) (vi x2) (mV L) = some (V.str g2) ∧ vb (nB (eqI (↑(List.length g2)) 64)) = vb true ∧ V.tuple [V.str [], vi (Int.ofNat 1)] = V.tuple [V.str [], vi 1] ∧ (some (AObj.map (mV L) c ro) = some (AObj.map (mV L) c ro) ∧ True) ∧ True)) from
  ⟨fun m' K' => layE h, ⟨q0, (ci (casN z0)), q0, q1, (ci (casN z1)), q1, q2, cb (congrArg Bool.not (eqF rfl rfl (v22_3_b2_o0 g2 z2))), (by rfl), ⟨(by rfl), trivial⟩, trivial⟩⟩)
  (by kernel_rfl) Y

theorem v220_e_o0 (e : Int) (he : e ≠ (0 : Int)) : ¬e = (0 : Int) := by omega
theorem v220_e (Y : Ys Prop) (l m r s x : Int) (b0 b1 b2 b3 : Bool) (e : Int) (he : e ≠ 0) (h : S19s [geo l m r, .int .i64 s, ag b0 b1 b2 b3, .int .i64 x] = some (Lay.plain (.tuple [.nilslice, .int .i64 e]))) :
   body1 pA (callD pA tbV la21 6) Y c22 [geo l m r, .int .i64 s, ag b0 b1 b2 b3, .int .i64 x, .nilmap] (memO []) (endC ⟨[geo l m r, .int .i64 s, ag b0 b1 b2 b3, .int .i64 x, .nilmap], [], .tuple [.str [], .int .i64 e], [], []⟩) :=
  walkC_of_vc (C := ⟨[geo l m r, .int .i64 s, ag b0 b1 b2 b3, .int .i64 x, .nilmap], [], .tuple [.str [], .int .i64 e], [], []⟩) (mono21) (.wait 8 (.lay (Lay.plain (V.tuple [V.nilslice, vi e])) (.wait 7 (.fix s27 (vb true) .nil))))
  (show ((∀ (m' : Mem) (K' : V → Mem → Prop), la21 (.func (.func 20) [] []) ([V.agg [vi l, vi m, vi r], vi s, V.agg [vb b0, vb b1, vb b2, vb b3], vi x]) m' K' = Lay.go (Lay.plain (V.tuple [V.nilslice, vi e])) m' K') ∧ (vb (nB (eqI e 0)) = vb true ∧ V.tuple [V.str [], vi e] = V.tuple [V.str [], vi e] ∧ True ∧ True)) from
  ⟨fun m' K' => layE h, ⟨cb (congrArg Bool.not (eqF rfl rfl (v220_e_o0 e he))), (by rfl), trivial, trivial⟩⟩)
  (by kernel_rfl) Y


theorem v220_1 (Y : Ys Prop) (l m r s x : Int) (b0 b1 b2 b3 : Bool) (x0 : Int) (h : S19s [geo l m r, .int .i64 s, ag b0 b1 b2 b3, .int .i64 x] = some (Lay.new (Hd.slice 1 1) (some [.int .i64 0]) (AObj.cells [.int .i64 x0] false)))  :
   body1 pA (callD pA tbV la21 6) Y c22 [geo l m r, .int .i64 s, ag b0 b1 b2 b3, .int .i64 x, .nilmap] (memO []) (endC ⟨[geo l m r, .int .i64 s, ag b0 b1 b2 b3, .int .i64 x, .nilmap], [], .tuple [.str [], .int .i64 1], [], []⟩) :=
  walkC_of_vc (C := ⟨[geo l m r, .int .i64 s, ag b0 b1 b2 b3, .int .i64 x, .nilmap], [], .tuple [.str [], .int .i64 1], [], []⟩) (mono21) (.wait 8 (.lay (Lay.new (Hd.slice 1 1) (some [vi 0]) (AObj.cells [vi x0] false)) .nil))
  (show ((∀ (m' : Mem) (K' : V → Mem → Prop), la21 (.func (.func 20) [] []) ([V.agg [vi l, vi m, vi r], vi s, V.agg [vb b0, vb b1, vb b2, vb b3], vi x]) m' K' = Lay.go (Lay.new (Hd.slice 1 1) (some [vi 0]) (AObj.cells [vi x0] false)) m' K') ∧ (V.tuple [V.str [], vi (Int.ofNat 1)] = V.tuple [V.str [], vi 1] ∧ True ∧ True)) from
  ⟨fun m' K' => layE h, ⟨(by rfl), trivial, trivial⟩⟩)
  (by kernel_rfl) Y


theorem v220_2 (Y : Ys Prop) (l m r s x : Int) (b0 b1 b2 b3 : Bool) (x0 x1 : Int) (h : S19s [geo l m r, .int .i64 s, ag b0 b1 b2 b3, .int .i64 x] = some (Lay.new (Hd.slice 2 1) (some [.int .i64 0]) (AObj.cells [.int .i64 x0, .int .i64 x1] false)))  :
   body1 pA (callD pA tbV la21 6) Y c22 [geo l m r, .int .i64 s, ag b0 b1 b2 b3, .int .i64 x, .nilmap] (memO []) (endC ⟨[geo l m r, .int .i64 s, ag b0 b1 b2 b3, .int .i64 x, .nilmap], [], .tuple [.str [], .int .i64 1], [], []⟩) :=
  walkC_of_vc (C := ⟨[geo l m r, .int .i64 s, ag b0 b1 b2 b3, .int .i64 x, .nilmap], [], .tuple [.str [], .int .i64 1], [], []⟩) (mono21) (.wait 8 (.lay (Lay.new (Hd.slice 2 1) (some [vi 0]) (AObj.cells [vi x0, vi x1] false)) .nil))
  (show ((∀ (m' : Mem) (K' : V → Mem → Prop), la21 (.func (.func 20) [] []) ([V.agg [vi l, vi m, vi r], vi s, V.agg [vb b0, vb b1, vb b2, vb b3], vi x]) m' K' = Lay.go (Lay.new (Hd.slice 2 1) (some [vi 0]) (AObj.cells [vi x0, vi x1] false)) m' K') ∧ (V.tuple [V.str [], vi (Int.ofNat 1)] = V.tuple [V.str [], vi 1] ∧ True ∧ True)) from
  ⟨fun m' K' => layE h, ⟨(by rfl), trivial, trivial⟩⟩)
  (by kernel_rfl) Y


theorem v220_3 (Y : Ys Prop) (l m r s x : Int) (b0 b1 b2 b3 : Bool) (x0 x1 x2 : Int) (h : S19s [geo l m r, .int .i64 s, ag b0 b1 b2 b3, .int .i64 x] = some (Lay.new (Hd.slice 3 1) (some [.int .i64 0]) (AObj.cells [.int .i64 x0, .int .i64 x1, .int .i64 x2] false)))  :
   body1 pA (callD pA tbV la21 6) Y c22 [geo l m r, .int .i64 s, ag b0 b1 b2 b3, .int .i64 x, .nilmap] (memO []) (endC ⟨[geo l m r, .int .i64 s, ag b0 b1 b2 b3, .int .i64 x, .nilmap], [], .tuple [.str [], .int .i64 1], [], []⟩) :=
  walkC_of_vc (C := ⟨[geo l m r, .int .i64 s, ag b0 b1 b2 b3, .int .i64 x, .nilmap], [], .tuple [.str [], .int .i64 1], [], []⟩) (mono21) (.wait 8 (.lay (Lay.new (Hd.slice 3 1) (some [vi 0]) (AObj.cells [vi x0, vi x1, vi x2] false)) .nil))
  (show ((∀ (m' : Mem) (K' : V → Mem → Prop), la21 (.func (.func 20) [] []) ([V.agg [vi l, vi m, vi r], vi s, V.agg [vb b0, vb b1, vb b2, vb b3], vi x]) m' K' = Lay.go (Lay.new (Hd.slice 3 1) (some [vi 0]) (AObj.cells [vi x0, vi x1, vi x2] false)) m' K') ∧ (V.tuple [V.str [], vi (Int.ofNat 1)] = V.tuple [V.str [], vi 1] ∧ True ∧ True)) from
  ⟨fun m' K' => layE h, ⟨(by rfl), trivial, trivial⟩⟩)
  (by kernel_rfl) Y


theorem law5_g (Y : Ys Prop) (l m r s x : Int) (b0 b1 b2 b3 : Bool) (L : List (Int × List Nat × Nat)) (c : Nat) (h8 : S8 ⟨[.map 0], [.map (mV L) c true], .bool true, [.map (mV L) c true], []⟩) (w8 : Con.wf ⟨[.map 0], [.map (mV L) c true], .bool true, [.map (mV L) c true], []⟩ = true)  :
   body1 pA (callD pA tb14 la5 5) Y c5 [geo l m r, .int .i64 s, ag b0 b1 b2 b3, .int .i64 x, .map 0] (memO [.map (mV L) c true]) (endC ⟨[geo l m r, .int .i64 s, ag b0 b1 b2 b3, .int .i64 x, .map 0], [.map (mV L) c true], .bool true, [.map (mV L) c true], []⟩) :=
  walkC_of_vc (C := ⟨[geo l m r, .int .i64 s, ag b0 b1 b2 b3, .int .i64 x, .map 0], [.map (mV L) c true], .bool true, [.map (mV L) c true], []⟩) (mono5) (.wait 4 (.con ({ args := [V.map 0], pre := [AObj.map (mV L) c true], ans := vb true, old := [AObj.map (mV L) c true], new := [] }) [0] (.fixM 0 (AObj.map (mV L) c true) .nil)))
  (show ((∀ (m' : Mem) (K' : V → Mem → Prop), ConAt ({ args := [V.map 0], pre := [AObj.map (mV L) c true], ans := vb true, old := [AObj.map (mV L) c true], new := [] }) (nthD [0]) ([V.map 0]) m' → K' (V.ren (Con.tau ({ args := [V.map 0], pre := [AObj.map (mV L) c true], ans := vb true, old := [AObj.map (mV L) c true], new := [] }) (nthD [0]) (Mem.next m')) (Con.ans ({ args := [V.map 0], pre := [AObj.map (mV L) c true], ans := vb true, old := [AObj.map (mV L) c true], new := [] }))) (Con.mem ({ args := [V.map 0], pre := [AObj.map (mV L) c true], ans := vb true, old := [AObj.map (mV L) c true], new := [] }) (nthD [0]) m') → la5 (.func (.func 8) [] []) ([V.map 0]) m' K') ∧ Con.wf ({ args := [V.map 0], pre := [AObj.map (mV L) c true], ans := vb true, old := [AObj.map (mV L) c true], new := [] }) = true ∧ true = true ∧ [V.map 0] = rens (nthD [0]) ([V.map 0]) ∧ (some (AObj.map (mV L) c true) = some (AObj.ren (nthD [0]) (AObj.map (mV L) c true)) ∧ True) ∧ (some (AObj.map (erens (Con.tau { args := [V.map 0], pre := [AObj.map (mV L) c true], ans := vb true, old := [AObj.map (mV L) c true], new := [] } (nthD [0]) 3) (mV L)) c true) = some (AObj.map (mV L) c true) ∧ vb true = vb true ∧ (some (AObj.map (mV L) c true) = some (AObj.map (mV L) c true) ∧ True) ∧ True)) from
  ⟨fun m' K' h1 h2 => conIn (h8) h1 h2, w8, rfl, rfl, ⟨congrArg (fun x => some (AObj.map x _ _)) (erens_mV _ _).symm, trivial⟩, ⟨(congrArg (fun x => some (AObj.map x _ _)) (erens_mV _ _)), (by rfl), ⟨(by rfl), trivial⟩, trivial⟩⟩)
  (by kernel_rfl) Y

theorem law5_e_o0 (e1 : Int) : e1 = e1 := by omega
theorem law5_e_o1 (e : Int) : e = e := by omega
theorem law5_e (Y : Ys Prop) (l m r s x : Int) (b0 b1 b2 b3 : Bool) (L : List (Int × List Nat × Nat)) (c : Nat) (h8 : S8 ⟨[.map 0], [.map (mV L) c true], .bool false, [.map (mV L) c true], []⟩) (w8 : Con.wf ⟨[.map 0], [.map (mV L) c true], .bool false, [.map (mV L) c true], []⟩ = true) (X : List Nat) (e : Int) (hX : beqL X X = true) (h21 : S21 ⟨[geo l m r, .int .i64 s, ag b0 b1 b2 b3, .int .i64 x, .map 0], [.map (mV L) c true], .tuple [.str X, .int .i64 e], [.map (mV L) c true], []⟩) (w21 : Con.wf ⟨[geo l m r, .int .i64 s, ag b0 b1 b2 b3, .int .i64 x, .map 0], [.map (mV L) c true], .tuple [.str X, .int .i64 e], [.map (mV L) c true], []⟩ = true) (e1 : Int) (h : S19s [geo l m r, .int .i64 s, ag b0 b1 b2 b3, .int .i64 x] = some (Lay.plain (.tuple [.nilslice, .int .i64 e1]))) :
   body1 pA (callD pA tb14 la5 5) Y c5 [geo l m r, .int .i64 s, ag b0 b1 b2 b3, .int .i64 x, .map 0] (memO [.map (mV L) c true]) (endC ⟨[geo l m r, .int .i64 s, ag b0 b1 b2 b3, .int .i64 x, .map 0], [.map (mV L) c true], .bool true, [.map (mV L) c true], []⟩) :=
  walkC_of_vc (C := ⟨[geo l m r, .int .i64 s, ag b0 b1 b2 b3, .int .i64 x, .map 0], [.map (mV L) c true], .bool true, [.map (mV L) c true], []⟩) (mono5) (.wait 4 (.con ({ args := [V.map 0], pre := [AObj.map (mV L) c true], ans := vb false, old := [AObj.map (mV L) c true], new := [] }) [0] (.fixM 0 (AObj.map (mV L) c true) (.wait 5 (.lay (Lay.plain (V.tuple [V.nilslice, vi e1])) (.wait 9 (.lay (Lay.plain (V.tuple [V.nilslice, vi e1])) (.wait 10 (.con ({ args := [geo l m r, vi s, ag b0 b1 b2 b3, vi x, V.map 0], pre := [AObj.map (mV L) c true], ans := V.tuple [V.str X, vi e], old := [AObj.map (mV L) c true], new := [] }) [0] (.fixM 0 (AObj.map (mV L) c true) (.wait 10 (.con ({ args := [geo l m r, vi s, ag b0 b1 b2 b3, vi x, V.map 0], pre := [AObj.map (mV L) c true], ans := V.tuple [V.str X, vi e], old := [AObj.map (mV L) c true], new := [] }) [0] (.fixM 0 (AObj.map (mV L) c true) (.wait 8 (.fix s58 (vb true) (.wait 24 (.fix s67 (vb true) (.wait 5 (.fix s72 (vb true) .nil)))))))))))))))))))
  (show ((∀ (m' : Mem) (K' : V → Mem → Prop), ConAt ({ args := [V.map 0], pre := [AObj.map (mV L) c true], ans := vb false, old := [AObj.map (mV L) c true], new := [] }) (nthD [0]) ([V.map 0]) m' → K' (V.ren (Con.tau ({ args := [V.map 0], pre := [AObj.map (mV L) c true], ans := vb false, old := [AObj.map (mV L) c true], new := [] }) (nthD [0]) (Mem.next m')) (Con.ans ({ args := [V.map 0], pre := [AObj.map (mV L) c true], ans := vb false, old := [AObj.map (mV L) c true], new := [] }))) (Con.mem ({ args := [V.map 0], pre := [AObj.map (mV L) c true], ans := vb false, old := [AObj.map (mV L) c true], new := [] }) (nthD [0]) m') → la5 (.func (.func 8) [] []) ([V.map 0]) m' K') ∧ Con.wf ({ args := [V.map 0], pre := [AObj.map (mV L) c true], ans := vb false, old := [AObj.map (mV L) c true], new := [] }) = true ∧ true = true ∧ [V.map 0] = rens (nthD [0]) ([V.map 0]) ∧ (some (AObj.map (mV L) c true) = some (AObj.ren (nthD [0]) (AObj.map (mV L) c true)) ∧ True) ∧ (some (AObj.map (erens (Con.tau { args := [V.map 0], pre := [AObj.map (mV L) c true], ans := vb false, old := [AObj.map (mV L) c true], new := [] } (nthD [0]) 3) (mV L)) c true) = some (AObj.map (mV L) c true) ∧ (∀ (m' : Mem) (K' : V → Mem → Prop), la5 (.func (.func 19) [] []) ([V.agg [vi l, vi m, vi r], vi s, V.agg [vb b0, vb b1, vb b2, vb b3], vi x]) m' K' = Lay.go (Lay.plain (V.tuple [V.nilslice, vi e1])) m' K') ∧ ((∀ (m' : Mem) (K' : V → Mem → Prop), la5 (.func (.func 20) [] []) ([V.agg [vi l, vi m, vi r], vi s, V.agg [vb b0, vb b1, vb b2, vb b3], vi x]) m' K' = Lay.go (Lay.plain (V.tuple [V.nilslice, vi e1])) m' K') ∧ ((∀ (m' : Mem) (K' : V → Mem → Prop), ConAt ({ args := [geo l m r, vi s, ag b0 b1 b2 b3, vi x, V.map 0], pre := [AObj.map (mV L) c true], ans := V.tuple [V.str X, vi e], old := [AObj.map (mV L) c true], new := [] }) (nthD [0]) ([V.agg [vi l, vi m, vi r], vi s, V.agg [vb b0, vb b1, vb b2, vb b3], vi x, V.map 0]) m' → K' (V.ren (Con.tau ({ args := [geo l m r, vi s, ag b0 b1 b2 b3, vi x, V.map 0], pre := [AObj.map (mV L) c true], ans := V.tuple [V.str X, vi e], old := [AObj.map (mV L) c true], new := [] }) (nthD [0]) (Mem.next m')) (Con.ans ({ args := [geo l m r, vi s, ag b0 b1 b2 b3, vi x, V.map 0], pre := [AObj.map (mV L) c true], ans := V.tuple [V.str X, vi e], old := [AObj.map (mV L) c true], new := [] }))) (Con.mem ({ args := [geo l m r, vi s, ag b0 b1 b2 b3, vi x, V.map 0], pre := [AObj.map (mV L) c true], ans := V.tuple [V.str X, vi e], old := [AObj.map (mV L) c true], new := [] }) (nthD [0]) m') → la5 (.func (.func 21) [] []) ([V.agg [vi l, vi m, vi r], vi s, V.agg [vb b0, vb b1, vb b2, vb b3], vi x, V.map 0]) m' K') ∧ Con.wf ({ args := [geo l m r, vi s, ag b0 b1 b2 b3, vi x, V.map 0], pre := [AObj.map (mV L) c true], ans := V.tuple [V.str X, vi e], old := [AObj.map (mV L) c true], new := [] }) = true ∧ true = true ∧ [V.agg [vi l, vi m, vi r], vi s, V.agg [vb b0, vb b1, vb b2, vb b3], vi x, V.map 0] = rens (nthD [0]) ([V.agg [vi l, vi m, vi r], vi s, V.agg [vb b0, vb b1, vb b2, vb b3], vi x, V.map 0]) ∧ (some (AObj.map (mV L) c true) = some (AObj.ren (nthD [0]) (AObj.map (mV L) c true)) ∧ True) ∧ (some (AObj.map (erens (Con.tau { args := [geo l m r, vi s, ag b0 b1 b2 b3, vi x, V.map 0], pre := [AObj.map (mV L) c true], ans := V.tuple [V.str X, vi e], old := [AObj.map (mV L) c true], new := [] } (nthD [0]) 3) (mV L)) c true) = some (AObj.map (mV L) c true) ∧ (∀ (m' : Mem) (K' : V → Mem → Prop), ConAt ({ args := [geo l m r, vi s, ag b0 b1 b2 b3, vi x, V.map 0], pre := [AObj.map (mV L) c true], ans := V.tuple [V.str X, vi e], old := [AObj.map (mV L) c true], new := [] }) (nthD [0]) ([V.agg [vi l, vi m, vi r], vi s, V.agg [vb b0, vb b1, vb b2, vb b3], vi x, V.map 0]) m' → K' (V.ren (Con.tau ({ args := [geo l m r, vi s, ag b0 b1 b2 b3, vi x, V.map 0], pre := [AObj.map (mV L) c true], ans := V.tuple [V.str X, vi e], old := [AObj.map (mV L) c true], new := [] }) (nthD [0]) (Mem.next m')) (Con.ans ({ args := [geo l m r, vi s, ag b0 b1 b2 b3, vi x, V.map 0], pre := [AObj.map (mV L) c true], ans := V.tuple [V.str X, vi e], old := [AObj.map (mV L) c true], new := [] }))) (Con.mem ({ args := [geo l m r, vi s, ag b0 b1 b2 b3, vi x, V.map 0], pre := [AObj.map (mV L) c true], ans := V.tuple [V.str X, vi e], old := [AObj.map (mV L) c true], new := [] }) (nthD [0]) m') → la5 (.func (.func 22) [] []) ([V.agg [vi l, vi m, vi r], vi s, V.agg [vb b0, vb b1, vb b2, vb b3], vi x, V.map 0]) m' K') ∧ Con.wf ({ args := [geo l m r, vi s, ag b0 b1 b2 b3, vi x, V.map 0], pre := [AObj.map (mV L) c true], ans := V.tuple [V.str X, vi e], old := [AObj.map (mV L) c true], new := [] }) = true ∧ true = true ∧ [V.agg [vi l, vi m, vi r], vi s, V.agg [vb b0, vb b1, vb b2, vb b3], vi x, V.map 0] = rens (nthD [0]) ([V.agg [vi l, vi m, vi r], vi s, V.agg [vb b0, vb b1, vb b2, vb b3], vi x, V.map 0]) ∧ (some (AObj.map (mV L) c true) = some (AObj.ren (nthD [0]) (AObj.map (mV L) c true)) ∧ True) ∧ (some (AObj.map (erens (Con.tau { args := [geo l m r, vi s, ag b0 b1 b2 b3, vi x, V.map 0], pre := [AObj.map (mV L) c true], ans := V.tuple [V.str X, vi e], old := [AObj.map (mV L) c true], new := [] } (nthD [0]) 3) (mV L)) c true) = some (AObj.map (mV L) c true) ∧ vb (eqI e1 e1) = vb true ∧ vb (beqL X X) = vb true ∧ vb (eqI e e) = vb true ∧ vb true = vb true ∧ (some (AObj.map (mV L) c true) = some (AObj.map (mV L) c true) ∧ True) ∧ True)))))) from
  ⟨fun m' K' h1 h2 => conIn (h8) h1 h2, w8, rfl, rfl, ⟨congrArg (fun x => some (AObj.map x _ _)) (erens_mV _ _).symm, trivial⟩, ⟨(congrArg (fun x => some (AObj.map x _ _)) (erens_mV _ _)), fun m' K' => layE h, ⟨fun m' K' => layE h, ⟨fun m' K' h1 h2 => conMiss rfl (conIn (h21) h1 h2), w21, rfl, rfl, ⟨congrArg (fun x => some (AObj.map x _ _)) (erens_mV _ _).symm, trivial⟩, ⟨(congrArg (fun x => some (AObj.map x _ _)) (erens_mV _ _)), fun m' K' h1 h2 => conMiss rfl (conMiss rfl (conIn (h21) h1 h2)), w21, rfl, rfl, ⟨congrArg (fun x => some (AObj.map x _ _)) (erens_mV _ _).symm, trivial⟩, ⟨(congrArg (fun x => some (AObj.map x _ _)) (erens_mV _ _)), (cb (eqT rfl rfl (law5_e_o0 e1))), (cb hX), (cb (eqT rfl rfl (law5_e_o1 e))), (by rfl), ⟨(by rfl), trivial⟩, trivial⟩⟩⟩⟩⟩⟩)
  (by kernel_rfl) Y

theorem law5_1_o0 (x0 : Int) : x0 = x0 := by omega
theorem law5_1_o1 (e : Int) : e = e := by omega
theorem law5_1 (Y : Ys Prop) (l m r s x : Int) (b0 b1 b2 b3 : Bool) (L : List (Int × List Nat × Nat)) (c : Nat) (h8 : S8 ⟨[.map 0], [.map (mV L) c true], .bool false, [.map (mV L) c true], []⟩) (w8 : Con.wf ⟨[.map 0], [.map (mV L) c true], .bool false, [.map (mV L) c true], []⟩ = true) (X : List Nat) (e : Int) (hX : beqL X X = true) (h21 : S21 ⟨[geo l m r, .int .i64 s, ag b0 b1 b2 b3, .int .i64 x, .map 0], [.map (mV L) c true], .tuple [.str X, .int .i64 e], [.map (mV L) c true], []⟩) (w21 : Con.wf ⟨[geo l m r, .int .i64 s, ag b0 b1 b2 b3, .int .i64 x, .map 0], [.map (mV L) c true], .tuple [.str X, .int .i64 e], [.map (mV L) c true], []⟩ = true) (x0 : Int) (h : S19s [geo l m r, .int .i64 s, ag b0 b1 b2 b3, .int .i64 x] = some (Lay.new (Hd.slice 1 1) (some [.int .i64 0]) (AObj.cells [.int .i64 x0] false)))  :
   body1 pA (callD pA tb14 la5 5) Y c5 [geo l m r, .int .i64 s, ag b0 b1 b2 b3, .int .i64 x, .map 0] (memO [.map (mV L) c true]) (endC ⟨[geo l m r, .int .i64 s, ag b0 b1 b2 b3, .int .i64 x, .map 0], [.map (mV L) c true], .bool true, [.map (mV L) c true], []⟩) :=
  walkC_of_vc (C := ⟨[geo l m r, .int .i64 s, ag b0 b1 b2 b3, .int .i64 x, .map 0], [.map (mV L) c true], .bool true, [.map (mV L) c true], []⟩) (mono5) (.wait 4 (.con ({ args := [V.map 0], pre := [AObj.map (mV L) c true], ans := vb false, old := [AObj.map (mV L) c true], new := [] }) [0] (.fixM 0 (AObj.map (mV L) c true) (.wait 5 (.lay (Lay.new (Hd.slice 1 1) (some [vi 0]) (AObj.cells [vi x0] false)) (.wait 9 (.lay (Lay.new (Hd.slice 1 1) (some [vi 0]) (AObj.cells [vi x0] false)) (.wait 10 (.con ({ args := [geo l m r, vi s, ag b0 b1 b2 b3, vi x, V.map 0], pre := [AObj.map (mV L) c true], ans := V.tuple [V.str X, vi e], old := [AObj.map (mV L) c true], new := [] }) [0] (.fixM 0 (AObj.map (mV L) c true) (.wait 10 (.con ({ args := [geo l m r, vi s, ag b0 b1 b2 b3, vi x, V.map 0], pre := [AObj.map (mV L) c true], ans := V.tuple [V.str X, vi e], old := [AObj.map (mV L) c true], new := [] }) [0] (.fixM 0 (AObj.map (mV L) c true) (.wait 35 (.fix s25 (vb false) (.wait 15 (.fix s67 (vb true) (.wait 5 (.fix s72 (vb true) .nil)))))))))))))))))))
  (show ((∀ (m' : Mem) (K' : V → Mem → Prop), ConAt ({ args := [V.map 0], pre := [AObj.map (mV L) c true], ans := vb false, old := [AObj.map (mV L) c true], new := [] }) (nthD [0]) ([V.map 0]) m' → K' (V.ren (Con.tau ({ args := [V.map 0], pre := [AObj.map (mV L) c true], ans := vb false, old := [AObj.map (mV L) c true], new := [] }) (nthD [0]) (Mem.next m')) (Con.ans ({ args := [V.map 0], pre := [AObj.map (mV L) c true], ans := vb false, old := [AObj.map (mV L) c true], new := [] }))) (Con.mem ({ args := [V.map 0], pre := [AObj.map (mV L) c true], ans := vb false, old := [AObj.map (mV L) c true], new := [] }) (nthD [0]) m') → la5 (.func (.func 8) [] []) ([V.map 0]) m' K') ∧ Con.wf ({ args := [V.map 0], pre := [AObj.map (mV L) c true], ans := vb false, old := [AObj.map (mV L) c true], new := [] }) = true ∧ true = true ∧ [V.map 0] = rens (nthD [0]) ([V.map 0]) ∧ (some (AObj.map (mV L) c true) = some (AObj.ren (nthD [0]) (AObj.map (mV L) c true)) ∧ True) ∧ (some (AObj.map (erens (Con.tau { args := [V.map 0], pre := [AObj.map (mV L) c true], ans := vb false, old := [AObj.map (mV L) c true], new := [] } (nthD [0]) 3) (mV L)) c true) = some (AObj.map (mV L) c true) ∧ (∀ (m' : Mem) (K' : V → Mem → Prop), la5 (.func (.func 19) [] []) ([V.agg [vi l, vi m, vi r], vi s, V.agg [vb b0, vb b1, vb b2, vb b3], vi x]) m' K' = Lay.go (Lay.new (Hd.slice 1 1) (some [vi 0]) (AObj.cells [vi x0] false)) m' K') ∧ ((∀ (m' : Mem) (K' : V → Mem → Prop), la5 (.func (.func 20) [] []) ([V.agg [vi l, vi m, vi r], vi s, V.agg [vb b0, vb b1, vb b2, vb b3], vi x]) m' K' = Lay.go (Lay.new (Hd.slice 1 1) (some [vi 0]) (AObj.cells [vi x0] false)) m' K') ∧ ((∀ (m' : Mem) (K' : V → Mem → Prop), ConAt ({ args := [geo l m r, vi s, ag b0 b1 b2 b3, vi x, V.map 0], pre := [AObj.map (mV L) c true], ans := V.tuple [V.str X, vi e], old := [AObj.map (mV L) c true], new := [] }) (nthD [0]) ([V.agg [vi l, vi m, vi r], vi s, V.agg [vb b0, vb b1, vb b2, vb b3], vi x, V.map 0]) m' → K' (V.ren (Con.tau ({ args := [geo l m r, vi s, ag b0 b1 b2 b3, vi x, V.map 0], pre := [AObj.map (mV L) c true], ans := V.tuple [V.str X, vi e], old := [AObj.map (mV L) c true], new := [] }) (nthD [0]) (Mem.next m')) (Con.ans ({ args := [geo l m r, vi s, ag b0 b1 b2 b3, vi x, V.map 0], pre := [AObj.map (mV L) c true], ans := V.tuple [V.str X, vi e], old := [AObj.map (mV L) c true], new := [] }))) (Con.mem ({ args := [geo l m r, vi s, ag b0 b1 b2 b3, vi x, V.map 0], pre := [AObj.map (mV L) c true], ans := V.tuple [V.str X, vi e], old := [AObj.map (mV L) c true], new := [] }) (nthD [0]) m') → la5 (.func (.func 21) [] []) ([V.agg [vi l, vi m, vi r], vi s, V.agg [vb b0, vb b1, vb b2, vb b3], vi x, V.map 0]) m' K') ∧ Con.wf ({ args := [geo l m r, vi s, ag b0 b1 b2 b3, vi x, V.map 0], pre := [AObj.map (mV L) c true], ans := V.tuple [V.str X, vi e], old := [AObj.map (mV L) c true], new := [] }) = true ∧ true = true ∧ [V.agg [vi l, vi m, vi r], vi s, V.agg [vb b0, vb b1, vb b2, vb b3], vi x, V.map 0] = rens (nthD [0]) ([V.agg [vi l, vi m, vi r], vi s, V.agg [vb b0, vb b1, vb b2, vb b3], vi x, V.map 0]) ∧ (some (AObj.map (mV L) c true) = some (AObj.ren (nthD [0]) (AObj.map (mV L) c true)) ∧ True) ∧ (some (AObj.map (erens (Con.tau { args := [geo l m r, vi s, ag b0 b1 b2 b3, vi x, V.map 0], pre := [AObj.map (mV L) c true], ans := V.tuple [V.str X, vi e], old := [AObj.map (mV L) c true], new := [] } (nthD [0]) 5) (mV L)) c true) = some (AObj.map (mV L) c true) ∧ (∀ (m' : Mem) (K' : V → Mem → Prop), ConAt ({ args := [geo l m r, vi s, ag b0 b1 b2 b3, vi x, V.map 0], pre := [AObj.map (mV L) c true], ans := V.tuple [V.str X, vi e], old := [AObj.map (mV L) c true], new := [] }) (nthD [0]) ([V.agg [vi l, vi m, vi r], vi s, V.agg [vb b0, vb b1, vb b2, vb b3], vi x, V.map 0]) m' → K' (V.ren (Con.tau ({ args := [geo l m r, vi s, ag b0 b1 b2 b3, vi x, V.map 0], pre := [AObj.map (mV L) c true], ans := V.tuple [V.str X, vi e], old := [AObj.map (mV L) c true], new := [] }) (nthD [0]) (Mem.next m')) (Con.ans ({ args := [geo l m r, vi s, ag b0 b1 b2 b3, vi x, V.map 0], pre := [AObj.map (mV L) c true], ans := V.tuple [V.str X, vi e], old := [AObj.map (mV L) c true], new := [] }))) (Con.mem ({ args := [geo l m r, vi s, ag b0 b1 b2 b3, vi x, V.map 0], pre := [AObj.map (mV L) c true], ans := V.tuple [V.str X, vi e], old := [AObj.map (mV L) c true], new := [] }) (nthD [0]) m') → la5 (.func (.func 22) [] []) ([V.agg [vi l, vi m, vi r], vi s, V.agg [vb b0, vb b1, vb b2, vb b3], vi x, V.map 0]) m' K') ∧ Con.wf ({ args := [geo l m r, vi s, ag b0 b1 b2 b3, vi x, V.map 0], pre := [AObj.map (mV L) c true], ans := V.tuple [V.str X, vi e], old := [AObj.map (mV L) c true], new := [] }) = true ∧ true = true ∧ [V.agg [vi l, vi m, vi r], vi s, V.agg [vb b0, vb b1, vb b2, vb b3], vi x, V.map 0] = rens (nthD [0]) ([V.agg [vi l, vi m, vi r], vi s, V.agg [vb b0, vb b1, vb b2, vb b3], vi x, V.map 0]) ∧ (some (AObj.map (mV L) c true) = some (AObj.ren (nthD [0]) (AObj.map (mV L) c true)) ∧ True) ∧ (some (AObj.map (erens (Con.tau { args := [geo l m r, vi s, ag b0 b1 b2 b3, vi x, V.map 0], pre := [AObj.map (mV L) c true], ans := V.tuple [V.str X, vi e], old := [AObj.map (mV L) c true], new := [] } (nthD [0]) 5) (mV L)) c true) = some (AObj.map (mV L) c true) ∧ vb (nB (eqI x0 x0)) = vb false ∧ vb (beqL X X) = vb true ∧ vb (eqI e e) = vb true ∧ vb true = vb true ∧ (some (AObj.map (mV L) c true) = some (AObj.map (mV L) c true) ∧ True) ∧ True)))))) from
  ⟨fun m' K' h1 h2 => conIn (h8) h1 h2, w8, rfl, rfl, ⟨congrArg (fun x => some (AObj.map x _ _)) (erens_mV _ _).symm, trivial⟩, ⟨(congrArg (fun x => some (AObj.map x _ _)) (erens_mV _ _)), fun m' K' => layE h, ⟨fun m' K' => layE h, ⟨fun m' K' h1 h2 => conMiss rfl (conIn (h21) h1 h2), w21, rfl, rfl, ⟨congrArg (fun x => some (AObj.map x _ _)) (erens_mV _ _).symm, trivial⟩, ⟨(congrArg (fun x => some (AObj.map x _ _)) (erens_mV _ _)), fun m' K' h1 h2 => conMiss rfl (conMiss rfl (conIn (h21) h1 h2)), w21, rfl, rfl, ⟨congrArg (fun x => some (AObj.map x _ _)) (erens_mV _ _).symm, trivial⟩, ⟨(congrArg (fun x => some (AObj.map x _ _)) (erens_mV _ _)), cb (congrArg Bool.not (eqT rfl rfl (law5_1_o0 x0))), (cb hX), (cb (eqT rfl rfl (law5_1_o1 e))), (by rfl), ⟨(by rfl), trivial⟩, trivial⟩⟩⟩⟩⟩⟩)
  (by kernel_rfl) Y

theorem law5_2_o0 (x0 : Int) : x0 = x0 := by omega
theorem law5_2_o1 (x1 : Int) : x1 = x1 := by omega
theorem law5_2_o2 (e : Int) : e = e := by omega
theorem law5_2 (Y : Ys Prop) (l m r s x : Int) (b0 b1 b2 b3 : Bool) (L : List (Int × List Nat × Nat)) (c : Nat) (h8 : S8 ⟨[.map 0], [.map (mV L) c true], .bool false, [.map (mV L) c true], []⟩) (w8 : Con.wf ⟨[.map 0], [.map (mV L) c true], .bool false, [.map (mV L) c true], []⟩ = true) (X : List Nat) (e : Int) (hX : beqL X X = true) (h21 : S21 ⟨[geo l m r, .int .i64 s, ag b0 b1 b2 b3, .int .i64 x, .map 0], [.map (mV L) c true], .tuple [.str X, .int .i64 e], [.map (mV L) c true], []⟩) (w21 : Con.wf ⟨[geo l m r, .int .i64 s, ag b0 b1 b2 b3, .int .i64 x, .map 0], [.map (mV L) c true], .tuple [.str X, .int .i64 e], [.map (mV L) c true], []⟩ = true) (x0 x1 : Int) (h : S19s [geo l m r, .int .i64 s, ag b0 b1 b2 b3, .int .i64 x] = some (Lay.new (Hd.slice 2 1) (some [.int .i64 0]) (AObj.cells [.int .i64 x0, .int .i64 x1] false)))  :
   body1 pA (callD pA tb14 la5 5) Y c5 [geo l m r, .int .i64 s, ag b0 b1 b2 b3, .int .i64 x, .map 0] (memO [.map (mV L) c true]) (endC ⟨[geo l m r, .int .i64 s, ag b0 b1 b2 b3, .int .i64 x, .map 0], [.map (mV L) c true], .bool true, [.map (mV L) c true], []⟩) :=
  walkC_of_vc (C := ⟨[geo l m r, .int .i64 s, ag b0 b1 b2 b3, .int .i64 x, .map 0], [.map (mV L) c true], .bool true, [.map (mV L) c true], []⟩) (mono5) (.wait 4 (.con ({ args := [V.map 0], pre := [AObj.map (mV L) c true], ans := vb false, old := [AObj.map (mV L) c true], new := [] }) [0] (.fixM 0 (AObj.map (mV L) c true) (.wait 5 (.lay (Lay.new (Hd.slice 2 1) (some [vi 0]) (AObj.cells [vi x0, vi x1] false)) (.wait 9 (.lay (Lay.new (Hd.slice 2 1) (some [vi 0]) (AObj.cells [vi x0, vi x1] false)) (.wait 10 (.con ({ args := [geo l m r, vi s, ag b0 b1 b2 b3, vi x, V.map 0], pre := [AObj.map (mV L) c true], ans := V.tuple [V.str X, vi e], old := [AObj.map (mV L) c true], new := [] }) [0] (.fixM 0 (AObj.map (mV L) c true) (.wait 10 (.con ({ args := [geo l m r, vi s, ag b0 b1 b2 b3, vi x, V.map 0], pre := [AObj.map (mV L) c true], ans := V.tuple [V.str X, vi e], old := [AObj.map (mV L) c true], new := [] }) [0] (.fixM 0 (AObj.map (mV L) c true) (.wait 35 (.fix s25 (vb false) (.wait 18 (.fix s25 (vb false) (.wait 15 (.fix s67 (vb true) (.wait 5 (.fix s72 (vb true) .nil)))))))))))))))))))))
  (show ((∀ (m' : Mem) (K' : V → Mem → Prop), ConAt ({ args := [V.map 0], pre := [AObj.map (mV L) c true], ans := vb false, old := [AObj.map (mV L) c true], new := [] }) (nthD [0]) ([V.map 0]) m' → K' (V.ren (Con.tau ({ args := [V.map 0], pre := [AObj.map (mV L) c true], ans := vb false, old := [AObj.map (mV L) c true], new := [] }) (nthD [0]) (Mem.next m')) (Con.ans ({ args := [V.map 0], pre := [AObj.map (mV L) c true], ans := vb false, old := [AObj.map (mV L) c true], new := [] }))) (Con.mem ({ args := [V.map 0], pre := [AObj.map (mV L) c true], ans := vb false, old := [AObj.map (mV L) c true], new := [] }) (nthD [0]) m') → la5 (.func (.func 8) [] []) ([V.map 0]) m' K') ∧ Con.wf ({ args := [V.map 0], pre := [AObj.map (mV L) c true], ans := vb false, old := [AObj.map (mV L) c true], new := [] }) = true ∧ true = true ∧ [V.map 0] = rens (nthD [0]) ([V.map 0]) ∧ (some (AObj.map (mV L) c true) = some (AObj.ren (nthD [0]) (AObj.map (mV L) c true)) ∧ True) ∧ (some (AObj.map (erens (Con.tau { args := [V.map 0], pre := [AObj.map (mV L) c true], ans := vb false, old := [AObj.map (mV L) c true], new := [] } (nthD [0]) 3) (mV L)) c true) = some (AObj.map (mV L) c true) ∧ (∀ (m' : Mem) (K' : V → Mem → Prop), la5 (.func (.func 19) [] []) ([V.agg [vi l, vi m, vi r], vi s, V.agg [vb b0, vb b1, vb b2, vb b3], vi x]) m' K' = Lay.go (Lay.new (Hd.slice 2 1) (some [vi 0]) (AObj.cells [vi x0, vi x1] false)) m' K') ∧ ((∀ (m' : Mem) (K' : V → Mem → Prop), la5 (.func (.func 20) [] []) ([V.agg [vi l, vi m, vi r], vi s, V.agg [vb b0, vb b1, vb b2, vb b3], vi x]) m' K' = Lay.go (Lay.new (Hd.slice 2 1) (some [vi 0]) (AObj.cells [vi x0, vi x1] false)) m' K') ∧ ((∀ (m' : Mem) (K' : V → Mem → Prop), ConAt ({ args := [geo l m r, vi s, ag b0 b1 b2 b3, vi x, V.map 0], pre := [AObj.map (mV L) c true], ans := V.tuple [V.str X, vi e], old := [AObj.map (mV L) c true], new := [] }) (nthD [0]) ([V.agg [vi l, vi m, vi r], vi s, V.agg [vb b0, vb b1, vb b2, vb b3], vi x, V.map 0]) m' → K' (V.ren (Con.tau ({ args := [geo l m r, vi s, ag b0 b1 b2 b3, vi x, V.map 0], pre := [AObj.map (mV L) c true], ans := V.tuple [V.str X, vi e], old := [AObj.map (mV L) c true], new := [] }) (nthD [0]) (Mem.next m')) (Con.ans ({ args := [geo l m r, vi s, ag b0 b1 b2 b3, vi x, V.map 0], pre := [AObj.map (mV L) c true], ans := V.tuple [V.str X, vi e], old := [AObj.map (mV L) c true], new := [] }))) (Con.mem ({ args := [geo l m r, vi s, ag b0 b1 b2 b3, vi x, V.map 0], pre := [AObj.map (mV L) c true], ans := V.tuple [V.str X, vi e], old := [AObj.map (mV L) c true], new := [] }) (nthD [0]) m') → la5 (.func (.func 21) [] []) ([V.agg [vi l, vi m, vi r], vi s, V.agg [vb b0, vb b1, vb b2, vb b3], vi x, V.map 0]) m' K') ∧ Con.wf ({ args := [geo l m r, vi s, ag b0 b1 b2 b3, vi x, V.map 0], pre := [AObj.map (mV L) c true], ans := V.tuple [V.str X, vi e], old := [AObj.map (mV L) c true], new := [] }) = true ∧ true = true ∧ [V.agg [vi l, vi m, vi r], vi s, V.agg [vb b0, vb b1, vb b2, vb b3], vi x, V.map 0] = rens (nthD [0]) ([V.agg [vi l, vi m, vi r], vi s, V.agg [vb b0, vb b1, vb b2, vb b3], vi x, V.map 0]) ∧ (some (AObj.map (mV L) c true) = some (AObj.ren (nthD [0]) (AObj.map (mV L) c true)) ∧ True) ∧ (some (AObj.map (erens (Con.tau { args := [geo l m r, vi s, ag b0 b1 b2 b3, vi x, V.map 0], pre := [AObj.map (mV L) c true], ans := V.tuple [V.str X, vi e], old := [AObj.map (mV L) c true], new := [] } (nthD [0]) 5) (mV L)) c true) = some (AObj.map (mV L) c true) ∧ (∀ (m' : Mem) (K' : V → Mem → Prop), ConAt ({ args := [geo l m r, vi s, ag b0 b1 b2 b3, vi x, V.map 0], pre := [AObj.map (mV L) c true], ans := V.tuple [V.str X, vi e], old := [AObj.map (mV L) c true], new := [] }) (nthD [0]) ([V.agg [vi l, vi m, vi r], vi s, V.agg [vb b0, vb b1, vb b2, vb b3], vi x, V.map 0]) m' → K' (V.ren (Con.tau ({ args := [geo l m r, vi s, ag b0 b1 b2 b3, vi x, V.map 0], pre := [AObj.map (mV L) c true], ans := V.tuple [V.str X, vi e], old := [AObj.map (mV L) c true], new := [] }) (nthD [0]) (Mem.next m')) (Con.ans ({ args := [geo l m r, vi s, ag b0 b1 b2 b3, vi x, V.map 0], pre := [AObj.map (mV L) c true], ans := V.tuple [V.str X, vi e], old := [AObj.map (mV L) c true], new := [] }))) (Con.mem ({ args := [geo l m r, vi s, ag b0 b1 b2 b3, vi x, V.map 0], pre := [AObj.map (mV L) c true], ans := V.tuple [V.str X, vi e], old := [AObj.map (mV L) c true], new := [] }) (nthD [0]) m') → la5 (.func (.func 22) [] []) ([V.agg [vi l, vi m, vi r], vi s, V.agg [vb b0, vb b1, vb b2, vb b3], vi x, V.map 0]) m' K') ∧ Con.wf ({ args := [geo l m r, vi s, ag b0 b1 b2 b3, vi x, V.map 0], pre := [AObj.map (mV L) c true], ans := V.tuple [V.str X, vi e], old := [AObj.map (mV L) c true], new := [] }) = true ∧ true = true ∧ [V.agg [vi l, vi m, vi r], vi s, V.agg [vb b0, vb b1, vb b2, vb b3], vi x, V.map 0] = rens (nthD [0]) ([V.agg [vi l, vi m, vi r], vi s, V.agg [vb b0, vb b1, vb b2, vb b3], vi x, V.map 0]) ∧ (some (AObj.map (mV L) c true) = some (AObj.ren (nthD [0]) (AObj.map (mV L) c true)) ∧ True) ∧ (some (AObj.map (erens (Con.tau { args := [geo l m r, vi s, ag b0 b1 b2 b3, vi x, V.map 0], pre := [AObj.map (mV L) c true], ans := V.tuple [V.str X, vi e], old := [AObj.map (mV L) c true], new := [] } (nthD [0]) 5) (mV L)) c true) = some (AObj.map (mV L) c true) ∧ vb (nB (eqI x0 x0)) = vb false ∧ vb (nB (eqI x1 x1)) = vb false ∧ vb (beqL X X) = vb true ∧ vb (eqI e e) = vb true ∧ vb true = vb true ∧ (some (AObj.map (mV L) c true) = some (AObj.map (mV L) c true) ∧ True) ∧ True)))))) from
  ⟨fun m' K' h1 h2 => conIn (h8) h1 h2, w8, rfl, rfl, ⟨congrArg (fun x => some (AObj.map x _ _)) (erens_mV _ _).symm, trivial⟩, ⟨(congrArg (fun x => some (AObj.map x _ _)) (erens_mV _ _)), fun m' K' => layE h, ⟨fun m' K' => layE h, ⟨fun m' K' h1 h2 => conMiss rfl (conIn (h21) h1 h2), w21, rfl, rfl, ⟨congrArg (fun x => some (AObj.map x _ _)) (erens_mV _ _).symm, trivial⟩, ⟨(congrArg (fun x => some (AObj.map x _ _)) (erens_mV _ _)), fun m' K' h1 h2 => conMiss rfl (conMiss rfl (conIn (h21) h1 h2)), w21, rfl, rfl, ⟨congrArg (fun x => some (AObj.map x _ _)) (erens_mV _ _).symm, trivial⟩, ⟨(congrArg (fun x => some (AObj.map x _ _)) (erens_mV _ _)), cb (congrArg Bool.not (eqT rfl rfl (law5_2_o0 x0))), cb (congrArg Bool.not (eqT rfl rfl (law5_2_o1 x1))), (cb hX), (cb (eqT rfl rfl (law5_2_o2 e))), (by rfl), ⟨(by rfl), trivial⟩, trivial⟩⟩⟩⟩⟩⟩)
  (by kernel_rfl) Y

theorem law5_3_o0 (x0 : Int) : x0 = x0 := by omega
theorem law5_3_o1 (x1 : Int) : x1 = x1 := by omega
theorem law5_3_o2 (x2 : Int) : x2 = x2 := by omega
theorem law5_3_o3 (e : Int) : e = e := by omega
theorem law5_3 (Y : Ys Prop) (l m r s x : Int) (b0 b1 b2 b3 : Bool) (L : List (Int × List Nat × Nat)) (c : Nat) (h8 : S8 ⟨[.map 0], [.map (mV L) c true], .bool false, [.map (mV L) c true], []⟩) (w8 : Con.wf ⟨[.map 0], [.map (mV L) c true], .bool false, [.map (mV L) c true], []⟩ = true) (X : List Nat) (e : Int) (hX : beqL X X = true) (h21 : S21 ⟨[geo l m r, .int .i64 s, ag b0 b1 b2 b3, .int .i64 x, .map 0], [.map (mV L) c true], .tuple [.str X, .int .i64 e], [.map (mV L) c true], []⟩) (w21 : Con.wf ⟨[geo l m r, .int .i64 s, ag b0 b1 b2 b3, .int .i64 x, .map 0], [.map (mV L) c true], .tuple [.str X, .int .i64 e], [.map (mV L) c true], []⟩ = true) (x0 x1 x2 : Int) (h : S19s [geo l m r, .int .i64 s, ag b0 b1 b2 b3, .int .i64 x] = some (Lay.new (Hd.slice 3 1) (some [.int .i64 0]) (AObj.cells [.int .i64 x0, .int .i64 x1, .int .i64 x2] false)))  :
   body1 pA (callD pA tb14 la5 5) Y c5 [geo l m r, .int .i64 s, ag b0 b1 b2 b3, .int .i64 x, .map 0] (memO [.map (mV L) c true]) (endC ⟨[geo l m r, .int .i64 s, ag b0 b1 b2 b3, .int .i64 x, .map 0], [.map (mV L) c true], .bool true, [.map (mV L) c true], []⟩) :=
  walkC_of_vc (C := ⟨[geo l m r, .int .i64 s, ag b0 b1 b2 b3, .int .i64 x, .map 0], [.map (mV L) c true], .bool true, [.map (mV L) c true], []⟩) (mono5) (.wait 4 (.con ({ args := [V.map 0], pre := [AObj.map (mV L) c true], ans := vb false, old := [AObj.map (mV L) c true], new := [] }) [0] (.fixM 0 (AObj.map (mV L) c true) (.wait 5 (.lay (Lay.new (Hd.slice 3 1) (some [vi 0]) (AObj.cells [vi x0, vi x1, vi x2] false)) (.wait 9 (.lay (Lay.new (Hd.slice 3 1) (some [vi 0]) (AObj.cells [vi x0, vi x1, vi x2] false)) (.wait 10 (.con ({ args := [geo l m r, vi s, ag b0 b1 b2 b3, vi x, V.map 0], pre := [AObj.map (mV L) c true], ans := V.tuple [V.str X, vi e], old := [AObj.map (mV L) c true], new := [] }) [0] (.fixM 0 (AObj.map (mV L) c true) (.wait 10 (.con ({ args := [geo l m r, vi s, ag b0 b1 b2 b3, vi x, V.map 0], pre := [AObj.map (mV L) c true], ans := V.tuple [V.str X, vi e], old := [AObj.map (mV L) c true], new := [] }) [0] (.fixM 0 (AObj.map (mV L) c true) (.wait 35 (.fix s25 (vb false) (.wait 18 (.fix s25 (vb false) (.wait 18 (.fix s25 (vb false) (.wait 15 (.fix s67 (vb true) (.wait 5 (.fix s72 (vb true) .nil)))))))))))))))))))))))
  (show ((∀ (m' : Mem) (K' : V → Mem → Prop), ConAt ({ args := [V.map 0], pre := [AObj.map (mV L) c true], ans := vb false, old := [AObj.map (mV L) c true], new := [] }) (nthD [0]) ([V.map 0]) m' → K' (V.ren (Con.tau ({ args := [V.map 0], pre := [AObj.map (mV L) c true], ans := vb false, old := [AObj.map (mV L) c true], new := [] }) (nthD [0]) (Mem.next m')) (Con.ans ({ args := [V.map 0], pre := [AObj.map (mV L) c true], ans := vb false, old := [AObj.map (mV L) c true], new := [] }))) (Con.mem ({ args := [V.map 0], pre := [AObj.map (mV L) c true], ans := vb false, old := [AObj.map (mV L) c true], new := [] }) (nthD [0]) m') → la5 (.func (.func 8) [] []) ([V.map 0]) m' K') ∧ Con.wf ({ args := [V.map 0], pre := [AObj.map (mV L) c true], ans := vb false, old := [AObj.map (mV L) c true], new := [] }) = true ∧ true = true ∧ [V.map 0] = rens (nthD [0]) ([V.map 0]) ∧ (some (AObj.map (mV L) c true) = some (AObj.ren (nthD [0]) (AObj.map (mV L) c true)) ∧ True) ∧ (some (AObj.map (erens (Con.tau { args := [V.map 0], pre := [AObj.map (mV L) c true], ans := vb false, old := [AObj.map (mV L) c true], new := [] } (nthD [0]) 3) (mV L)) c true) = some (AObj.map (mV L) c true) ∧ (∀ (m' : Mem) (K' : V → Mem → Prop), la5 (.func (.func 19) [] []) ([V.agg [vi l, vi m, vi r], vi s, V.agg [vb b0, vb b1, vb b2, vb b3], vi x]) m' K' = Lay.go (Lay.new (Hd.slice 3 1) (some [vi 0]) (AObj.cells [vi x0, vi x1, vi x2] false)) m' K') ∧ ((∀ (m' : Mem) (K' : V → Mem → Prop), la5 (.func (.func 20) [] []) ([V.agg [vi l, vi m, vi r], vi s, V.agg [vb b0, vb b1, vb b2, vb b3], vi x]) m' K' = Lay.go (Lay.new (Hd.slice 3 1) (some [vi 0]) (AObj.cells [vi x0, vi x1, vi x2] false)) m' K') ∧ ((∀ (m' : Mem) (K' : V → Mem → Prop), ConAt ({ args := [geo l m r, vi s, ag b0 b1 b2 b3, vi x, V.map 0], pre := [AObj.map (mV L) c true], ans := V.tuple [V.str X, vi e], old := [AObj.map (mV L) c true], new := [] }) (nthD [0]) ([V.agg [vi l, vi m, vi r], vi s, V.agg [vb b0, vb b1, vb b2, vb b3], vi x, V.map 0]) m' → K' (V.ren (Con.tau ({ args := [geo l m r, vi s, ag b0 b1 b2 b3, vi x, V.map 0], pre := [AObj.map (mV L) c true], ans := V.tuple [V.str X, vi e], old := [AObj.map (mV L) c true], new := [] }) (nthD [0]) (Mem.next m')) (Con.ans ({ args := [geo l m r, vi s, ag b0 b1 b2 b3, vi x, V.map 0], pre := [AObj.map (mV L) c true], ans := V.tuple [V.str X, vi e], old := [AObj.map (mV L) c true], new := [] }))) (Con.mem ({ args := [geo l m r, vi s, ag b0 b1 b2 b3, vi x, V.map 0], pre := [AObj.map (mV L) c true], ans := V.tuple [V.str X, vi e], old := [AObj.map (mV L) c true], new := [] }) (nthD [0]) m') → la5 (.func (.func 21) [] []) ([V.agg [vi l, vi m, vi r], vi s, V.agg [vb b0, vb b1, vb b2, vb b3], vi x, V.map 0]) m' K') ∧ Con.wf ({ args := [geo l m r, vi s, ag b0 b1 b2 b3, vi x, V.map 0], pre := [AObj.map (mV L) c true], ans := V.tuple [V.str X, vi e], old := [AObj.map (mV L) c true], new := [] }) = true ∧ true = true ∧ [V.agg [vi l, vi m, vi r], vi s, V.agg [vb b0, vb b1, vb b2, vb b3], vi x, V.map 0] = rens (nthD [0]) ([V.agg [vi l, vi m, vi r], vi s, V.agg [vb b0, vb b1, vb b2, vb b3], vi x, V.map 0]) ∧ (some (AObj.map (mV L) c true) = some (AObj.ren (nthD [0]) (AObj.map (mV L) c true)) ∧ True) ∧ (some (AObj.map (erens (Con.tau { args := [geo l m r, vi s, ag b0 b1 b2 b3, vi x, V.map 0], pre := [AObj.map (mV L) c true], ans := V.tuple [V.str X, vi e], old := [AObj.map (mV L) c true], new := [] } (nthD [0]) 5) (mV L)) c true) = some (AObj.map (mV L) c true) ∧ (∀ (m' : Mem) (K' : V → Mem → Prop), ConAt ({ args := [geo l m r, vi s, ag b0 b1 b2 b3, vi x, V.map 0], pre := [AObj.map (mV L) c true], ans := V.tuple [V.str X, vi e], old := [AObj.map (mV L) c true], new := [] }) (nthD [0]) ([V.agg [vi l, vi m, vi r], vi s, V.agg [vb b0, vb b1, vb b2, vb b3], vi x, V.map 0]) m' → K' (V.ren (Con.tau ({ args := [geo l m r, vi s, ag b0 b1 b2 b3, vi x, V.map 0], pre := [AObj.map (mV L) c true], ans := V.tuple [V.str X, vi e], old := [AObj.map (mV L) c true], new := [] }) (nthD [0]) (Mem.next m')) (Con.ans ({ args := [geo l m r, vi s, ag b0 b1 b2 b3, vi x, V.map 0], pre := [AObj.map (mV L) c true], ans := V.tuple [V.str X, vi e], old := [AObj.map (mV L) c true], new := [] }))) (Con.mem ({ args := [geo l m r, vi s, ag b0 b1 b2 b3, vi x, V.map 0], pre := [AObj.map (mV L) c true], ans := V.tuple [V.str X, vi e], old := [AObj.map (mV L) c true], new := [] }) (nthD [0]) m') → la5 (.func (.func 22) [] []) ([V.agg [vi l, vi m, vi r], vi s, V.agg [vb b0, vb b1, vb b2, vb b3], vi x, V.map 0]) m' K') ∧ Con.wf ({ args := [geo l m r, vi s, ag b0 b1 b2 b3, vi x, V.map 0], pre := [AObj.map (mV L) c true], ans := V.tuple [V.str X, vi e], old := [AObj.map (mV L) c true], new := [] }) = true ∧ true = true ∧ [V.agg [vi l, vi m, vi r], vi s, V.agg [vb b0, vb b1, vb b2, vb b3], vi x, V.map 0] = rens (nthD [0]) ([V.agg [vi l, vi m, vi r], vi s, V.agg [vb b0, vb b1, vb b2, vb b3], vi x, V.map 0]) ∧ (some (AObj.map (mV L) c true) = some (AObj.ren (nthD [0]) (AObj.map (mV L) c true)) ∧ True) ∧ (some (AObj.map (erens (Con.tau { args := [geo l m r, vi s, ag b0 b1 b2 b3, vi x, V.map 0], pre := [AObj.map (mV L) c true], ans := V.tuple [V.str X, vi e], old := [AObj.map (mV L) c true], new := [] } (nthD [0]) 5) (mV L)) c true) = some (AObj.map (mV L) c true) ∧ vb (nB (eqI x0 x0)) = vb false ∧ vb (nB (eqI x1 x1)) = vb false ∧ vb (nB (eqI x2 x2)) = vb false ∧ vb (beqL X X) = vb true ∧ vb (eqI e e) = vb true ∧ vb true = vb true ∧ (some (AObj.map (mV L) c true) = some (AObj.map (mV L) c true) ∧ True) ∧ True)))))) from
  ⟨fun m' K' h1 h2 => conIn (h8) h1 h2, w8, rfl, rfl, ⟨congrArg (fun x => some (AObj.map x _ _)) (erens_mV _ _).symm, trivial⟩, ⟨(congrArg (fun x => some (AObj.map x _ _)) (erens_mV _ _)), fun m' K' => layE h, ⟨fun m' K' => layE h, ⟨fun m' K' h1 h2 => conMiss rfl (conIn (h21) h1 h2), w21, rfl, rfl, ⟨congrArg (fun x => some (AObj.map x _ _)) (erens_mV _ _).symm, trivial⟩, ⟨(congrArg (fun x => some (AObj.map x _ _)) (erens_mV _ _)), fun m' K' h1 h2 => conMiss rfl (conMiss rfl (conIn (h21) h1 h2)), w21, rfl, rfl, ⟨congrArg (fun x => some (AObj.map x _ _)) (erens_mV _ _).symm, trivial⟩, ⟨(congrArg (fun x => some (AObj.map x _ _)) (erens_mV _ _)), cb (congrArg Bool.not (eqT rfl rfl (law5_3_o0 x0))), cb (congrArg Bool.not (eqT rfl rfl (law5_3_o1 x1))), cb (congrArg Bool.not (eqT rfl rfl (law5_3_o2 x2))), (cb hX), (cb (eqT rfl rfl (law5_3_o3 e))), (by rfl), ⟨(by rfl), trivial⟩, trivial⟩⟩⟩⟩⟩⟩)
  (by kernel_rfl) Y

theorem law50_e_o0 (e1 : Int) (h8 : S8 { args := [V.nilmap], pre := [], ans := vb false, old := [], new := [] }) : e1 = e1 := by omega
theorem law50_e_o1 (e : Int) (h8 : S8 { args := [V.nilmap], pre := [], ans := vb false, old := [], new := [] }) : e = e := by omega
theorem law50_e (Y : Ys Prop) (l m r s x : Int) (b0 b1 b2 b3 : Bool) (h8 : S8 ⟨[.nilmap], [], .bool false, [], []⟩) (X : List Nat) (e : Int) (hX : beqL X X = true) (h21 : S21 ⟨[geo l m r, .int .i64 s, ag b0 b1 b2 b3, .int .i64 x, .nilmap], [], .tuple [.str X, .int .i64 e], [], []⟩) (e1 : Int) (h : S19s [geo l m r, .int .i64 s, ag b0 b1 b2 b3, .int .i64 x] = some (Lay.plain (.tuple [.nilslice, .int .i64 e1]))) :
   body1 pA (callD pA tb14 la5 5) Y c5 [geo l m r, .int .i64 s, ag b0 b1 b2 b3, .int .i64 x, .nilmap] (memO []) (endC ⟨[geo l m r, .int .i64 s, ag b0 b1 b2 b3, .int .i64 x, .nilmap], [], .bool true, [], []⟩) :=
  walkC_of_vc (C := ⟨[geo l m r, .int .i64 s, ag b0 b1 b2 b3, .int .i64 x, .nilmap], [], .bool true, [], []⟩) (mono5) (.wait 4 (.con ({ args := [V.nilmap], pre := [], ans := vb false, old := [], new := [] }) [] (.wait 5 (.lay (Lay.plain (V.tuple [V.nilslice, vi e1])) (.wait 9 (.lay (Lay.plain (V.tuple [V.nilslice, vi e1])) (.wait 10 (.con ({ args := [geo l m r, vi s, ag b0 b1 b2 b3, vi x, V.nilmap], pre := [], ans := V.tuple [V.str X, vi e], old := [], new := [] }) [] (.wait 10 (.con ({ args := [geo l m r, vi s, ag b0 b1 b2 b3, vi x, V.nilmap], pre := [], ans := V.tuple [V.str X, vi e], old := [], new := [] }) [] (.wait 8 (.fix s58 (vb true) (.wait 24 (.fix s67 (vb true) (.wait 5 (.fix s72 (vb true) .nil))))))))))))))))
  (show ((∀ (m' : Mem) (K' : V → Mem → Prop), ConAt ({ args := [V.nilmap], pre := [], ans := vb false, old := [], new := [] }) (nthD []) ([V.nilmap]) m' → K' (V.ren (Con.tau ({ args := [V.nilmap], pre := [], ans := vb false, old := [], new := [] }) (nthD []) (Mem.next m')) (Con.ans ({ args := [V.nilmap], pre := [], ans := vb false, old := [], new := [] }))) (Con.mem ({ args := [V.nilmap], pre := [], ans := vb false, old := [], new := [] }) (nthD []) m') → la5 (.func (.func 8) [] []) ([V.nilmap]) m' K') ∧ Con.wf ({ args := [V.nilmap], pre := [], ans := vb false, old := [], new := [] }) = true ∧ true = true ∧ [V.nilmap] = rens (nthD []) ([V.nilmap]) ∧ True ∧ ((∀ (m' : Mem) (K' : V → Mem → Prop), la5 (.func (.func 19) [] []) ([V.agg [vi l, vi m, vi r], vi s, V.agg [vb b0, vb b1, vb b2, vb b3], vi x]) m' K' = Lay.go (Lay.plain (V.tuple [V.nilslice, vi e1])) m' K') ∧ ((∀ (m' : Mem) (K' : V → Mem → Prop), la5 (.func (.func 20) [] []) ([V.agg [vi l, vi m, vi r], vi s, V.agg [vb b0, vb b1, vb b2, vb b3], vi x]) m' K' = Lay.go (Lay.plain (V.tuple [V.nilslice, vi e1])) m' K') ∧ ((∀ (m' : Mem) (K' : V → Mem → Prop), ConAt ({ args := [geo l m r, vi s, ag b0 b1 b2 b3, vi x, V.nilmap], pre := [], ans := V.tuple [V.str X, vi e], old := [], new := [] }) (nthD []) ([V.agg [vi l, vi m, vi r], vi s, V.agg [vb b0, vb b1, vb b2, vb b3], vi x, V.nilmap]) m' → K' (V.ren (Con.tau ({ args := [geo l m r, vi s, ag b0 b1 b2 b3, vi x, V.nilmap], pre := [], ans := V.tuple [V.str X, vi e], old := [], new := [] }) (nthD []) (Mem.next m')) (Con.ans ({ args := [geo l m r, vi s, ag b0 b1 b2 b3, vi x, V.nilmap], pre := [], ans := V.tuple [V.str X, vi e], old := [], new := [] }))) (Con.mem ({ args := [geo l m r, vi s, ag b0 b1 b2 b3, vi x, V.nilmap], pre := [], ans := V.tuple [V.str X, vi e], old := [], new := [] }) (nthD []) m') → la5 (.func (.func 21) [] []) ([V.agg [vi l, vi m, vi r], vi s, V.agg [vb b0, vb b1, vb b2, vb b3], vi x, V.nilmap]) m' K') ∧ Con.wf ({ args := [geo l m r, vi s, ag b0 b1 b2 b3, vi x, V.nilmap], pre := [], ans := V.tuple [V.str X, vi e], old := [], new := [] }) = true ∧ true = true ∧ [V.agg [vi l, vi m, vi r], vi s, V.agg [vb b0, vb b1, vb b2, vb b3], vi x, V.nilmap] = rens (nthD []) ([V.agg [vi l, vi m, vi r], vi s, V.agg [vb b0, vb b1, vb b2, vb b3], vi x, V.nilmap]) ∧ True ∧ ((∀ (m' : Mem) (K' : V → Mem → Prop), ConAt ({ args := [geo l m r, vi s, ag b0 b1 b2 b3, vi x, V.nilmap], pre := [], ans := V.tuple [V.str X, vi e], old := [], new := [] }) (nthD []) ([V.agg [vi l, vi m, vi r], vi s, V.agg [vb b0, vb b1, vb b2, vb b3], vi x, V.nilmap]) m' → K' (V.ren (Con.tau ({ args := [geo l m r, vi s, ag b0 b1 b2 b3, vi x, V.nilmap], pre := [], ans := V.tuple [V.str X, vi e], old := [], new := [] }) (nthD []) (Mem.next m')) (Con.ans ({ args := [geo l m r, vi s, ag b0 b1 b2 b3, vi x, V.nilmap], pre := [], ans := V.tuple [V.str X, vi e], old := [], new := [] }))) (Con.mem ({ args := [geo l m r, vi s, ag b0 b1 b2 b3, vi x, V.nilmap], pre := [], ans := V.tuple [V.str X, vi e], old := [], new := [] }) (nthD []) m') → la5 (.func (.func 22) [] []) ([V.agg [vi l, vi m, vi r], vi s, V.agg [vb b0, vb b1, vb b2, vb b3], vi x, V.nilmap]) m' K') ∧ Con.wf ({ args := [geo l m r, vi s, ag b0 b1 b2 b3, vi x, V.nilmap], pre := [], ans := V.tuple [V.str X, vi e], old := [], new := [] }) = true ∧ true = true ∧ [V.agg [vi l, vi m, vi r], vi s, V.agg [vb b0, vb b1, vb b2, vb b3], vi x, V.nilmap] = rens (nthD []) ([V.agg [vi l, vi m, vi r], vi s, V.agg [vb b0, vb b1, vb b2, vb b3], vi x, V.nilmap]) ∧ True ∧ (vb (eqI e1 e1) = vb true ∧ vb (beqL X X) = vb true ∧ vb (eqI e e) = vb true ∧ vb true = vb true ∧ True ∧ True)))))) from
  ⟨fun m' K' h1 h2 => conIn (h8) h1 h2, (by kernel_rfl), rfl, rfl, trivial, ⟨fun m' K' => layE h, ⟨fun m' K' => layE h, ⟨fun m' K' h1 h2 => conMiss rfl (conIn (h21) h1 h2), (by kernel_rfl), rfl, rfl, trivial, ⟨fun m' K' h1 h2 => conMiss rfl (conMiss rfl (conIn (h21) h1 h2)), (by kernel_rfl), rfl, rfl, trivial, ⟨(cb (eqT rfl rfl (law50_e_o0 e1 h8))), (cb hX), (cb (eqT rfl rfl (law50_e_o1 e h8))), (by rfl), trivial, trivial⟩⟩⟩⟩⟩⟩)
  (by kernel_rfl) Y

theorem law50_1_o0 (x0 : Int) (h8 : S8 { args := [V.nilmap], pre := [], ans := vb false, old := [], new := [] }) : x0 = x0 := by omega
theorem law50_1_o1 (e : Int) (h8 : S8 { args := [V.nilmap], pre := [], ans := vb false, old := [], new := [] }) : e = e := by omega
theorem law50_1 (Y : Ys Prop) (l m r s x : Int) (b0 b1 b2 b3 : Bool) (h8 : S8 ⟨[.nilmap], [], .bool false, [], []⟩) (X : List Nat) (e : Int) (hX : beqL X X = true) (h21 : S21 ⟨[geo l m r, .int .i64 s, ag b0 b1 b2 b3, .int .i64 x, .nilmap], [], .tuple [.str X, .int .i64 e], [], []⟩) (x0 : Int) (h : S19s [geo l m r, .int .i64 s, ag b0 b1 b2 b3, .int .i64 x] = some (Lay.new (Hd.slice 1 1) (some [.int .i64 0]) (AObj.cells [.int .i64 x0] false)))  :
   body1 pA (callD pA tb14 la5 5) Y c5 [geo l m r, .int .i64 s, ag b0 b1 b2 b3, .int .i64 x, .nilmap] (memO []) (endC ⟨[geo l m r, .int .i64 s, ag b0 b1 b2 b3, .int .i64 x, .nilmap], [], .bool true, [], []⟩) :=
  walkC_of_vc (C := ⟨[geo l m r, .int .i64 s, ag b0 b1 b2 b3, .int .i64 x, .nilmap], [], .bool true, [], []⟩) (mono5) (.wait 4 (.con ({ args := [V.nilmap], pre := [], ans := vb false, old := [], new := [] }) [] (.wait 5 (.lay (Lay.new (Hd.slice 1 1) (some [vi 0]) (AObj.cells [vi x0] false)) (.wait 9 (.lay (Lay.new (Hd.slice 1 1) (some [vi 0]) (AObj.cells [vi x0] false)) (.wait 10 (.con ({ args := [geo l m r, vi s, ag b0 b1 b2 b3, vi x, V.nilmap], pre := [], ans := V.tuple [V.str X, vi e], old := [], new := [] }) [] (.wait 10 (.con ({ args := [geo l m r, vi s, ag b0 b1 b2 b3, vi x, V.nilmap], pre := [], ans := V.tuple [V.str X, vi e], old := [], new := [] }) [] (.wait 35 (.fix s25 (vb false) (.wait 15 (.fix s67 (vb true) (.wait 5 (.fix s72 (vb true) .nil))))))))))))))))
  (show ((∀ (m' : Mem) (K' : V → Mem → Prop), ConAt ({ args := [V.nilmap], pre := [], ans := vb false, old := [], new := [] }) (nthD []) ([V.nilmap]) m' → K' (V.ren (Con.tau ({ args := [V.nilmap], pre := [], ans := vb false, old := [], new := [] }) (nthD []) (Mem.next m')) (Con.ans ({ args := [V.nilmap], pre := [], ans := vb false, old := [], new := [] }))) (Con.mem ({ args := [V.nilmap], pre := [], ans := vb false, old := [], new := [] }) (nthD []) m') → la5 (.func (.func 8) [] []) ([V.nilmap]) m' K') ∧ Con.wf ({ args := [V.nilmap], pre := [], ans := vb false, old := [], new := [] }) = true ∧ true = true ∧ [V.nilmap] = rens (nthD []) ([V.nilmap]) ∧ True ∧ ((∀ (m' : Mem) (K' : V → Mem → Prop), la5 (.func (.func 19) [] []) ([V.agg [vi l, vi m, vi r], vi s, V.agg [vb b0, vb b1, vb b2, vb b3], vi x]) m' K' = Lay.go (Lay.new (Hd.slice 1 1) (some [vi 0]) (AObj.cells [vi x0] false)) m' K') ∧ ((∀ (m' : Mem) (K' : V → Mem → Prop), la5 (.func (.func 20) [] []) ([V.agg [vi l, vi m, vi r], vi s, V.agg [vb b0, vb b1, vb b2, vb b3], vi x]) m' K' = Lay.go (Lay.new (Hd.slice 1 1) (some [vi 0]) (AObj.cells [vi x0] false)) m' K') ∧ ((∀ (m' : Mem) (K' : V → Mem → Prop), ConAt ({ args := [geo l m r, vi s, ag b0 b1 b2 b3, vi x, V.nilmap], pre := [], ans := V.tuple [V.str X, vi e], old := [], new := [] }) (nthD []) ([V.agg [vi l, vi m, vi r], vi s, V.agg [vb b0, vb b1, vb b2, vb b3], vi x, V.nilmap]) m' → K' (V.ren (Con.tau ({ args := [geo l m r, vi s, ag b0 b1 b2 b3, vi x, V.nilmap], pre := [], ans := V.tuple [V.str X, vi e], old := [], new := [] }) (nthD []) (Mem.next m')) (Con.ans ({ args := [geo l m r, vi s, ag b0 b1 b2 b3, vi x, V.nilmap], pre := [], ans := V.tuple [V.str X, vi e], old := [], new := [] }))) (Con.mem ({ args := [geo l m r, vi s, ag b0 b1 b2 b3, vi x, V.nilmap], pre := [], ans := V.tuple [V.str X, vi e], old := [], new := [] }) (nthD []) m') → la5 (.func (.func 21) [] []) ([V.agg [vi l, vi m, vi r], vi s, V.agg [vb b0, vb b1, vb b2, vb b3], vi x, V.nilmap]) m' K') ∧ Con.wf ({ args := [geo l m r, vi s, ag b0 b1 b2 b3, vi x, V.nilmap], pre := [], ans := V.tuple [V.str X, vi e], old := [], new := [] }) = true ∧ true = true ∧ [V.agg [vi l, vi m, vi r], vi s, V.agg [vb b0, vb b1, vb b2, vb b3], vi x, V.nilmap] = rens (nthD []) ([V.agg [vi l, vi m, vi r], vi s, V.agg [vb b0, vb b1, vb b2, vb b3], vi x, V.nilmap]) ∧ True ∧ ((∀ (m' : Mem) (K' : V → Mem → Prop), ConAt ({ args := [geo l m r, vi s, ag b0 b1 b2 b3, vi x, V.nilmap], pre := [], ans := V.tuple [V.str X, vi e], old := [], new := [] }) (nthD []) ([V.agg [vi l, vi m, vi r], vi s, V.agg [vb b0, vb b1, vb b2, vb b3], vi x, V.nilmap]) m' → K' (V.ren (Con.tau ({ args := [geo l m r, vi s, ag b0 b1 b2 b3, vi x, V.nilmap], pre := [], ans := V.tuple [V.str X, vi e], old := [], new := [] }) (nthD []) (Mem.next m')) (Con.ans ({ args := [geo l m r, vi s, ag b0 b1 b2 b3, vi x, V.nilmap], pre := [], ans := V.tuple [V.str X, vi e], old := [], new := [] }))) (Con.mem ({ args := [geo l m r, vi s, ag b0 b1 b2 b3, vi x, V.nilmap], pre := [], ans := V.tuple [V.str X, vi e], old := [], new := [] }) (nthD []) m') → la5 (.func (.func 22) [] []) ([V.agg [vi l, vi m, vi r], vi s, V.agg [vb b0, vb b1, vb b2, vb b3], vi x, V.nilmap]) m' K') ∧ Con.wf ({ args := [geo l m r, vi s, ag b0 b1 b2 b3, vi x, V.nilmap], pre := [], ans := V.tuple [V.str X, vi e], old := [], new := [] }) = true ∧ true = true ∧ [V.agg [vi l, vi m, vi r], vi s, V.agg [vb b0, vb b1, vb b2, vb b3], vi x, V.nilmap] = rens (nthD []) ([V.agg [vi l, vi m, vi r], vi s, V.agg [vb b0, vb b1, vb b2, vb b3], vi x, V.nilmap]) ∧ True ∧ (vb (nB (eqI x0 x0)) = vb false ∧ vb (beqL X X) = vb true ∧ vb (eqI e e) = vb true ∧ vb true = vb true ∧ True ∧ True)))))) from
  ⟨fun m' K' h1 h2 => conIn (h8) h1 h2, (by kernel_rfl), rfl, rfl, trivial, ⟨fun m' K' => layE h, ⟨fun m' K' => layE h, ⟨fun m' K' h1 h2 => conMiss rfl (conIn (h21) h1 h2), (by kernel_rfl), rfl, rfl, trivial, ⟨fun m' K' h1 h2 => conMiss rfl (conMiss rfl (conIn (h21) h1 h2)), (by kernel_rfl), rfl, rfl, trivial, ⟨cb (congrArg Bool.not (eqT rfl rfl (law50_1_o0 x0 h8))), (cb hX), (cb (eqT rfl rfl (law50_1_o1 e h8))), (by rfl), trivial, trivial⟩⟩⟩⟩⟩⟩)
  (by kernel_rfl) Y

theorem law50_2_o0 (x0 : Int) (h8 : S8 { args := [V.nilmap], pre := [], ans := vb false, old := [], new := [] }) : x0 = x0 := by omega
theorem law50_2_o1 (x1 : Int) (h8 : S8 { args := [V.nilmap], pre := [], ans := vb false, old := [], new := [] }) : x1 = x1 := by omega
theorem law50_2_o2 (e : Int) (h8 : S8 { args := [V.nilmap], pre := [], ans := vb false, old := [], new := [] }) : e = e := by omega
theorem law50_2 (Y : Ys Prop) (l m r s x : Int) (b0 b1 b2 b3 : Bool) (h8 : S8 ⟨[.nilmap], [], .bool false, [], []⟩) (X : List Nat) (e : Int) (hX : beqL X X = true) (h21 : S21 ⟨[geo l m r, .int .i64 s, ag b0 b1 b2 b3, .int .i64 x, .nilmap], [], .tuple [.str X, .int .i64 e], [], []⟩) (x0 x1 : Int) (h : S19s [geo l m r, .int .i64 s, ag b0 b1 b2 b3, .int .i64 x] = some (Lay.new (Hd.slice 2 1) (some [.int .i64 0]) (AObj.cells [.int .i64 x0, .int .i64 x1] false)))  :
   body1 pA (callD pA tb14 la5 5) Y c5 [geo l m r, .int .i64 s, ag b0 b1 b2 b3, .int .i64 x, .nilmap] (memO []) (endC ⟨[geo l m r, .int .i64 s, ag b0 b1 b2 b3, .int .i64 x, .nilmap], [], .bool true, [], []⟩) :=
  walkC_of_vc (C := ⟨[geo l m r, .int .i64 s, ag b0 b1 b2 b3, .int .i64 x, .nilmap], [], .bool true, [], []⟩) (mono5) (.wait 4 (.con ({ args := [V.nilmap], pre := [], ans := vb false, old := [], new := [] }) [] (.wait 5 (.lay (Lay.new (Hd.slice 2 1) (some [vi 0]) (AObj.cells [vi x0, vi x1] false)) (.wait 9 (.lay (Lay.new (Hd.slice 2 1) (some [vi 0]) (AObj.cells [vi x0, vi x1] false)) (.wait 10 (.con ({ args := [geo l m r, vi s, ag b0 b1 b2 b3, vi x, V.nilmap], pre := [], ans := V.tuple [V.str X, vi e], old := [], new := [] }) [] (.wait 10 (.con ({ args := [geo l m r, vi s, ag b0 b1 b2 b3, vi x, V.nilmap], pre := [], ans := V.tuple [V.str X, vi e], old := [], new := [] }) [] (.wait 35 (.fix s25 (vb false) (.wait 18 (.fix s25 (vb false) (.wait 15 (.fix s67 (vb true) (.wait 5 (.fix s72 (vb true) .nil))))))))))))))))))
  (show ((∀ (m' : Mem) (K' : V → Mem → Prop), ConAt ({ args := [V.nilmap], pre := [], ans := vb false, old := [], new := [] }) (nthD []) ([V.nilmap]) m' → K' (V.ren (Con.tau ({ args := [V.nilmap], pre := [], ans := vb false, old := [], new := [] }) (nthD []) (Mem.next m')) (Con.ans ({ args := [V.nilmap], pre := [], ans := vb false, old := [], new := [] }))) (Con.mem ({ args := [V.nilmap], pre := [], ans := vb false, old := [], new := [] }) (nthD []) m') → la5 (.func (.func 8) [] []) ([V.nilmap]) m' K') ∧ Con.wf ({ args := [V.nilmap], pre := [], ans := vb false, old := [], new := [] }) = true ∧ true = true ∧ [V.nilmap] = rens (nthD []) ([V.nilmap]) ∧ True ∧ ((∀ (m' : Mem) (K' : V → Mem → Prop), la5 (.func (.func 19) [] []) ([V.agg [vi l, vi m, vi r], vi s, V.agg [vb b0, vb b1, vb b2, vb b3], vi x]) m' K' = Lay.go (Lay.new (Hd.slice 2 1) (some [vi 0]) (AObj.cells [vi x0, vi x1] false)) m' K') ∧ ((∀ (m' : Mem) (K' : V → Mem → Prop), la5 (.func (.func 20) [] []) ([V.agg [vi l, vi m, vi r], vi s, V.agg [vb b0, vb b1, vb b2, vb b3], vi x]) m' K' = Lay.go (Lay.new (Hd.slice 2 1) (some [vi 0]) (AObj.cells [vi x0, vi x1] false)) m' K') ∧ ((∀ (m' : Mem) (K' : V → Mem → Prop), ConAt ({ args := [geo l m r, vi s, ag b0 b1 b2 b3, vi x, V.nilmap], pre := [], ans := V.tuple [V.str X, vi e], old := [], new := [] }) (nthD []) ([V.agg [vi l, vi m, vi r], vi s, V.agg [vb b0, vb b1, vb b2, vb b3], vi x, V.nilmap]) m' → K' (V.ren (Con.tau ({ args := [geo l m r, vi s, ag b0 b1 b2 b3, vi x, V.nilmap], pre := [], ans := V.tuple [V.str X, vi e], old := [], new := [] }) (nthD []) (Mem.next m')) (Con.ans ({ args := [geo l m r, vi s, ag b0 b1 b2 b3, vi x, V.nilmap], pre := [], ans := V.tuple [V.str X, vi e], old := [], new := [] }))) (Con.mem ({ args := [geo l m r, vi s, ag b0 b1 b2 b3, vi x, V.nilmap], pre := [], ans := V.tuple [V.str X, vi e], old := [], new := [] }) (nthD []) m') → la5 (.func (.func 21) [] []) ([V.agg [vi l, vi m, vi r], vi s, V.agg [vb b0, vb b1, vb b2, vb b3], vi x, V.nilmap]) m' K') ∧ Con.wf ({ args := [geo l m r, vi s, ag b0 b1 b2 b3, vi x, V.nilmap], pre := [], ans := V.tuple [V.str X, vi e], old := [], new := [] }) = true ∧ true = true ∧ [V.agg [vi l, vi m, vi r], vi s, V.agg [vb b0, vb b1, vb b2, vb b3], vi x, V.nilmap] = rens (nthD []) ([V.agg [vi l, vi m, vi r], vi s, V.agg [vb b0, vb b1, vb b2, vb b3], vi x, V.nilmap]) ∧ True ∧ ((∀ (m' : Mem) (K' : V → Mem → Prop), ConAt ({ args := [geo l m r, vi s, ag b0 b1 b2 b3, vi x, V.nilmap], pre := [], ans := V.tuple [V.str X, vi e], old := [], new := [] }) (nthD []) ([V.agg [vi l, vi m, vi r], vi s, V.agg [vb b0, vb b1, vb b2, vb b3], vi x, V.nilmap]) m' → K' (V.ren (Con.tau ({ args := [geo l m r, vi s, ag b0 b1 b2 b3, vi x, V.nilmap], pre := [], ans := V.tuple [V.str X, vi e], old := [], new := [] }) (nthD []) (Mem.next m')) (Con.ans ({ args := [geo l m r, vi s, ag b0 b1 b2 b3, vi x, V.nilmap], pre := [], ans := V.tuple [V.str X, vi e], old := [], new := [] }))) (Con.mem ({ args := [geo l m r, vi s, ag b0 b1 b2 b3, vi x, V.nilmap], pre := [], ans := V.tuple [V.str X, vi e], old := [], new := [] }) (nthD []) m') → la5 (.func (.func 22) [] []) ([V.agg [vi l, vi m, vi r], vi s, V.agg [vb b0, vb b1, vb b2, vb b3], vi x, V.nilmap]) m' K') ∧ Con.wf ({ args := [geo l m r, vi s, ag b0 b1 b2 b3, vi x, V.nilmap], pre := [], ans := V.tuple [V.str X, vi e], old := [], new := [] }) = true ∧ true = true ∧ [V.agg [vi l, vi m, vi r], vi s, V.agg [vb b0, vb b1, vb b2, vb b3], vi x, V.nilmap] = rens (nthD []) ([V.agg [vi l, vi m, vi r], vi s, V.agg [vb b0, vb b1, vb b2, vb b3], vi x, V.nilmap]) ∧ True ∧ (vb (nB (eqI x0 x0)) = vb false ∧ vb (nB (eqI x1 x1)) = vb false ∧ vb (beqL X X) = vb true ∧ vb (eqI e e) = vb true ∧ vb true = vb true ∧ True ∧ True)))))) from
  ⟨fun m' K' h1 h2 => conIn (h8) h1 h2, (by kernel_rfl), rfl, rfl, trivial, ⟨fun m' K' => layE h, ⟨fun m' K' => layE h, ⟨fun m' K' h1 h2 => conMiss rfl (conIn (h21) h1 h2), (by kernel_rfl), rfl, rfl, trivial, ⟨fun m' K' h1 h2 => conMiss rfl (conMiss rfl (conIn (h21) h1 h2)), (by kernel_rfl), rfl, rfl, trivial, ⟨cb (congrArg Bool.not (eqT rfl rfl (law50_2_o0 x0 h8))), cb (congrArg Bool.not (eqT rfl rfl (law50_2_o1 x1 h8))), (cb hX), (cb (eqT rfl rfl (law50_2_o2 e h8))), (by rfl), trivial, trivial⟩⟩⟩⟩⟩⟩)
  (by kernel_rfl) Y

theorem law50_3_o0 (x0 : Int) (h8 : S8 { args := [V.nilmap], pre := [], ans := vb false, old := [], new := [] }) : x0 = x0 := by omega
theorem law50_3_o1 (x1 : Int) (h8 : S8 { args := [V.nilmap], pre := [], ans := vb false, old := [], new := [] }) : x1 = x1 := by omega
theorem law50_3_o2 (x2 : Int) (h8 : S8 { args := [V.nilmap], pre := [], ans := vb false, old := [], new := [] }) : x2 = x2 := by omega
theorem law50_3_o3 (e : Int) (h8 : S8 { args := [V.nilmap], pre := [], ans := vb false, old := [], new := [] }) : e = e := by omega
theorem law50_3 (Y : Ys Prop) (l m r s x : Int) (b0 b1 b2 b3 : Bool) (h8 : S8 ⟨[.nilmap], [], .bool false, [], []⟩) (X : List Nat) (e : Int) (hX : beqL X X = true) (h21 : S21 ⟨[geo l m r, .int .i64 s, ag b0 b1 b2 b3, .int .i64 x, .nilmap], [], .tuple [.str X, .int .i64 e], [], []⟩) (x0 x1 x2 : Int) (h : S19s [geo l m r, .int .i64 s, ag b0 b1 b2 b3, .int .i64 x] = some (Lay.new (Hd.slice 3 1) (some [.int .i64 0]) (AObj.cells [.int .i64 x0, .int .i64 x1, .int .i64 x2] false)))  :
   body1 pA (callD pA tb14 la5 5) Y c5 [geo l m r, .int .i64 s, ag b0 b1 b2 b3, .int .i64 x, .nilmap] (memO []) (endC ⟨[geo l m r, .int .i64 s, ag b0 b1 b2 b3, .int .i64 x, .nilmap], [], .bool true, [], []⟩) :=
  walkC_of_vc (C := ⟨[geo l m r, .int .i64 s, ag b0 b1 b2 b3, .int .i64 x, .nilmap], [], .bool true, [], []⟩) (mono5) (.wait 4 (.con ({ args := [V.nilmap], pre := [], ans := vb false, old := [], new := [] }) [] (.wait 5 (.lay (Lay.new (Hd.slice 3 1) (some [vi 0]) (AObj.cells [vi x0, vi x1, vi x2] false)) (.wait 9 (.lay (Lay.new (Hd.slice 3 1) (some [vi 0]) (AObj.cells [vi x0, vi x1, vi x2] false)) (.wait 10 (.con ({ args := [geo l m r, vi s, ag b0 b1 b2 b3, vi x, V.nilmap], pre := [], ans := V.tuple [V.str X, vi e], old := [], new := [] }) [] (.wait 10 (.con ({ args := [geo l m r, vi s, ag b0 b1 b2 b3, vi x, V.nilmap], pre := [], ans := V.tuple [V.str X, vi e], old := [], new := [] }) [] (.wait 35 (.fix s25 (vb false) (.wait 18 (.fix s25 (vb false) (.wait 18 (.fix s25 (vb false) (.wait 15 (.fix s67 (vb true) (.wait 5 (.fix s72 (vb true) .nil))))))))))))))))))))
  (show ((∀ (m' : Mem) (K' : V → Mem → Prop), ConAt ({ args := [V.nilmap], pre := [], ans := vb false, old := [], new := [] }) (nthD []) ([V.nilmap]) m' → K' (V.ren (Con.tau ({ args := [V.nilmap], pre := [], ans := vb false, old := [], new := [] }) (nthD []) (Mem.next m')) (Con.ans ({ args := [V.nilmap], pre := [], ans := vb false, old := [], new := [] }))) (Con.mem ({ args := [V.nilmap], pre := [], ans := vb false, old := [], new := [] }) (nthD []) m') → la5 (.func (.func 8) [] []) ([V.nilmap]) m' K') ∧ Con.wf ({ args := [V.nilmap], pre := [], ans := vb false, old := [], new := [] }) = true ∧ true = true ∧ [V.nilmap] = rens (nthD []) ([V.nilmap]) ∧ True ∧ ((∀ (m' : Mem) (K' : V → Mem → Prop), la5 (.func (.func 19) [] []) ([V.agg [vi l, vi m, vi r], vi s, V.agg [vb b0, vb b1, vb b2, vb b3], vi x]) m' K' = Lay.go (Lay.new (Hd.slice 3 1) (some [vi 0]) (AObj.cells [vi x0, vi x1, vi x2] false)) m' K') ∧ ((∀ (m' : Mem) (K' : V → Mem → Prop), la5 (.func (.func 20) [] []) ([V.agg [vi l, vi m, vi r], vi s, V.agg [vb b0, vb b1, vb b2, vb b3], vi x]) m' K' = Lay.go (Lay.new (Hd.slice 3 1) (some [vi 0]) (AObj.cells [vi x0, vi x1, vi x2] false)) m' K') ∧ ((∀ (m' : Mem) (K' : V → Mem → Prop), ConAt ({ args := [geo l m r, vi s, ag b0 b1 b2 b3, vi x, V.nilmap], pre := [], ans := V.tuple [V.str X, vi e], old := [], new := [] }) (nthD []) ([V.agg [vi l, vi m, vi r], vi s, V.agg [vb b0, vb b1, vb b2, vb b3], vi x, V.nilmap]) m' → K' (V.ren (Con.tau ({ args := [geo l m r, vi s, ag b0 b1 b2 b3, vi x, V.nilmap], pre := [], ans := V.tuple [V.str X, vi e], old := [], new := [] }) (nthD []) (Mem.next m')) (Con.ans ({ args := [geo l m r, vi s, ag b0 b1 b2 b3, vi x, V.nilmap], pre := [], ans := V.tuple [V.str X, vi e], old := [], new := [] }))) (Con.mem ({ args := [geo l m r, vi s, ag b0 b1 b2 b3, vi x, V.nilmap], pre := [], ans := V.tuple [V.str X, vi e], old := [], new := [] }) (nthD []) m') → la5 (.func (.func 21) [] []) ([V.agg [vi l, vi m, vi r], vi s, V.agg [vb b0, vb b1, vb b2, vb b3], vi x, V.nilmap]) m' K') ∧ Con.wf ({ args := [geo l m r, vi s, ag b0 b1 b2 b3, vi x, V.nilmap], pre := [], ans := V.tuple [V.str X, vi e], old := [], new := [] }) = true ∧ true = true ∧ [V.agg [vi l, vi m, vi r], vi s, V.agg [vb b0, vb b1, vb b2, vb b3], vi x, V.nilmap] = rens (nthD []) ([V.agg [vi l, vi m, vi r], vi s, V.agg [vb b0, vb b1, vb b2, vb b3], vi x, V.nilmap]) ∧ True ∧ ((∀ (m' : Mem) (K' : V → Mem → Prop), ConAt ({ args := [geo l m r, vi s, ag b0 b1 b2 b3, vi x, V.nilmap], pre := [], ans := V.tuple [V.str X, vi e], old := [], new := [] }) (nthD []) ([V.agg [vi l, vi m, vi r], vi s, V.agg [vb b0, vb b1, vb b2, vb b3], vi x, V.nilmap]) m' → K' (V.ren (Con.tau ({ args := [geo l m r, vi s, ag b0 b1 b2 b3, vi x, V.nilmap], pre := [], ans := V.tuple [V.str X, vi e], old := [], new := [] }) (nthD []) (Mem.next m')) (Con.ans ({ args := [geo l m r, vi s, ag b0 b1 b2 b3, vi x, V.nilmap], pre := [], ans := V.tuple [V.str X, vi e], old := [], new := [] }))) (Con.mem ({ args := [geo l m r, vi s, ag b0 b1 b2 b3, vi x, V.nilmap], pre := [], ans := V.tuple [V.str X, vi e], old := [], new := [] }) (nthD []) m') → la5 (.func (.func 22) [] []) ([V.agg [vi l, vi m, vi r], vi s, V.agg [vb b0, vb b1, vb b2, vb b3], vi x, V.nilmap]) m' K') ∧ Con.wf ({ args := [geo l m r, vi s, ag b0 b1 b2 b3, vi x, V.nilmap], pre := [], ans := V.tuple [V.str X, vi e], old := [], new := [] }) = true ∧ true = true ∧ [V.agg [vi l, vi m, vi r], vi s, V.agg [vb b0, vb b1, vb b2, vb b3], vi x, V.nilmap] = rens (nthD []) ([V.agg [vi l, vi m, vi r], vi s, V.agg [vb b0, vb b1, vb b2, vb b3], vi x, V.nilmap]) ∧ True ∧ (vb (nB (eqI x0 x0)) = vb false ∧ vb (nB (eqI x1 x1)) = vb false ∧ vb (nB (eqI x2 x2)) = vb false ∧ vb (beqL X X) = vb true ∧ vb (eqI e e) = vb true ∧ vb true = vb true ∧ True ∧ True)))))) from
  ⟨fun m' K' h1 h2 => conIn (h8) h1 h2, (by kernel_rfl), rfl, rfl, trivial, ⟨fun m' K' => layE h, ⟨fun m' K' => layE h, ⟨fun m' K' h1 h2 => conMiss rfl (conIn (h21) h1 h2), (by kernel_rfl), rfl, rfl, trivial, ⟨fun m' K' h1 h2 => conMiss rfl (conMiss rfl (conIn (h21) h1 h2)), (by kernel_rfl), rfl, rfl, trivial, ⟨cb (congrArg Bool.not (eqT rfl rfl (law50_3_o0 x0 h8))), cb (congrArg Bool.not (eqT rfl rfl (law50_3_o1 x1 h8))), cb (congrArg Bool.not (eqT rfl rfl (law50_3_o2 x2 h8))), (cb hX), (cb (eqT rfl rfl (law50_3_o3 e h8))), (by rfl), trivial, trivial⟩⟩⟩⟩⟩⟩)
  (by kernel_rfl) Y

end Go.Proofs.Ytjikaankdnmabaa
