/- Package place: runs by script, and what its functions answer. No condition. -/
import Derived.Test.YtjikaankdnmabaaVD
namespace Go.Proofs.Ytjikaankdnmabaa
open Go Go.AM
set_option maxRecDepth 100000
set_option maxHeartbeats 0
set_option linter.unusedVariables false
theorem right_o0 (r : Int) (h2 : (decide ¬r < (2 : Int)) = true) (p2 : ¬r < (2 : Int)) (h3 : (decide ¬(64 : Int) < r) = true) (p3 : ¬(64 : Int) < r) : (0 : Int) ≤ r := by omega
theorem right_o1 (l : Int) (h0 : decide (l = (1 : Int)) = true) (p0 : l = (1 : Int)) : ¬l = (5 : Int) := by omega
theorem right_o2 (r : Int) (h6 : (decide ¬r < (2 : Int)) = true) (p6 : ¬r < (2 : Int)) (h7 : (decide ¬(64 : Int) < r) = true) (p7 : ¬(64 : Int) < r) : (0 : Int) ≤ r := by omega
theorem right_o3 (r : Int) (h9 : (decide ¬r < (2 : Int)) = true) (p9 : ¬r < (2 : Int)) (h10 : (decide ¬(64 : Int) < r) = true) (p10 : ¬(64 : Int) < r) : (0 : Int) ≤ r := by omega
theorem right (Y : Ys Prop) (l m r : Int) (K : V → Mem → Prop) (hK : ∀ mm, K (.bool (rgB l m r)) mm) :
   body1 pA (callD pA tb0 la0 5) Y c61 [geo l m r] ⟨0, .leaf⟩ K :=
  walk_of_vc (mono_false) (.wait 6 (.split s7 (decide (l = 1)) (.wait 5 (.split s12 (decide (m = 2)) (.wait 22 (.split s33 (decide ¬r < 2) (.wait 5 (.split s38 (decide ¬64 < r) (.wait 3 (.fix s41 (vi (r % 2)) .nil)) .nil)) .nil)) (.wait 3 (.fix s15 (vb false) .nil)))) (.wait 9 (.split s16 (decide (l = 5)) (.wait 4 (.split s20 (decide (m = 3)) (.wait 14 (.split s33 (decide ¬r < 2) (.wait 5 (.split s38 (decide ¬64 < r) (.wait 3 (.fix s41 (vi (r % 2)) .nil)) .nil)) .nil)) (.wait 9 (.split s28 (decide (m = 4)) (.wait 5 (.split s33 (decide ¬r < 2) (.wait 5 (.split s38 (decide ¬64 < r) (.wait 3 (.fix s41 (vi (r % 2)) .nil)) .nil)) .nil)) .nil)))) .nil))))
  (show (vb (eqI l 1) = vb (decide (l = 1)) ∧ ((decide (l = 1)) = true → (vb (eqI m 2) = vb (decide (m = 2)) ∧ ((decide (m = 2)) = true → (vb (nB (ltI r 2)) = vb (decide ¬r < 2) ∧ ((decide ¬r < 2) = true → (vb (nB (ltI 64 r)) = vb (decide ¬64 < r) ∧ ((decide ¬64 < r) = true → (vi (Int.tmod r 2) = vi (r % 2) ∧ vb (eqI (r % 2) 0) = vb (rgB l m r))) ∧ ((decide ¬64 < r) = false → (vb false = vb (rgB l m r))))) ∧ ((decide ¬r < 2) = false → (vb false = vb (rgB l m r))))) ∧ ((decide (m = 2)) = false → (vb (eqI l 5) = vb false ∧ vb false = vb (rgB l m r))))) ∧ ((decide (l = 1)) = false → (vb (eqI l 5) = vb (decide (l = 5)) ∧ ((decide (l = 5)) = true → (vb (eqI m 3) = vb (decide (m = 3)) ∧ ((decide (m = 3)) = true → (vb (nB (ltI r 2)) = vb (decide ¬r < 2) ∧ ((decide ¬r < 2) = true → (vb (nB (ltI 64 r)) = vb (decide ¬64 < r) ∧ ((decide ¬64 < r) = true → (vi (Int.tmod r 2) = vi (r % 2) ∧ vb (eqI (r % 2) 0) = vb (rgB l m r))) ∧ ((decide ¬64 < r) = false → (vb false = vb (rgB l m r))))) ∧ ((decide ¬r < 2) = false → (vb false = vb (rgB l m r))))) ∧ ((decide (m = 3)) = false → (vb (eqI m 4) = vb (decide (m = 4)) ∧ ((decide (m = 4)) = true → (vb (nB (ltI r 2)) = vb (decide ¬r < 2) ∧ ((decide ¬r < 2) = true → (vb (nB (ltI 64 r)) = vb (decide ¬64 < r) ∧ ((decide ¬64 < r) = true → (vi (Int.tmod r 2) = vi (r % 2) ∧ vb (eqI (r % 2) 0) = vb (rgB l m r))) ∧ ((decide ¬64 < r) = false → (vb false = vb (rgB l m r))))) ∧ ((decide ¬r < 2) = false → (vb false = vb (rgB l m r))))) ∧ ((decide (m = 4)) = false → (vb false = vb (rgB l m r))))))) ∧ ((decide (l = 5)) = false → (vb false = vb (rgB l m r)))))) from
  ⟨cb (eqD rfl rfl), (fun h0 => have p0 := dT h0; ⟨cb (eqD rfl rfl), (sT fun p1 => ⟨cb ((congrArg Bool.not (ltD rfl rfl)).trans (notD _)), (fun h2 => have p2 := dT h2; ⟨cb ((congrArg Bool.not (ltD rfl rfl)).trans (notD _)), (fun h3 => have p3 := dT h3; ⟨(ci (tmodE rfl rfl (right_o0 r h2 p2 h3 p3))), (Eq.trans (cb (eqD rfl rfl)) (gD (by unfold rgP; omega)))⟩), (sF fun p3 => (gF (by unfold rgP; omega)))⟩), (sF fun p2 => (gF (by unfold rgP; omega)))⟩), (sF fun p1 => ⟨(cb (eqF rfl rfl (right_o1 l h0 p0))), (gF (by unfold rgP; omega))⟩)⟩), (sF fun p0 => ⟨cb (eqD rfl rfl), (sT fun p4 => ⟨cb (eqD rfl rfl), (sT fun p5 => ⟨cb ((congrArg Bool.not (ltD rfl rfl)).trans (notD _)), (fun h6 => have p6 := dT h6; ⟨cb ((congrArg Bool.not (ltD rfl rfl)).trans (notD _)), (fun h7 => have p7 := dT h7; ⟨(ci (tmodE rfl rfl (right_o2 r h6 p6 h7 p7))), (Eq.trans (cb (eqD rfl rfl)) (gD (by unfold rgP; omega)))⟩), (sF fun p7 => (gF (by unfold rgP; omega)))⟩), (sF fun p6 => (gF (by unfold rgP; omega)))⟩), (sF fun p5 => ⟨cb (eqD rfl rfl), (sT fun p8 => ⟨cb ((congrArg Bool.not (ltD rfl rfl)).trans (notD _)), (fun h9 => have p9 := dT h9; ⟨cb ((congrArg Bool.not (ltD rfl rfl)).trans (notD _)), (fun h10 => have p10 := dT h10; ⟨(ci (tmodE rfl rfl (right_o3 r h9 p9 h10 p10))), (Eq.trans (cb (eqD rfl rfl)) (gD (by unfold rgP; omega)))⟩), (sF fun p10 => (gF (by unfold rgP; omega)))⟩), (sF fun p9 => (gF (by unfold rgP; omega)))⟩), (sF fun p8 => (gF (by unfold rgP; omega)))⟩)⟩), (sF fun p4 => (gF (by unfold rgP; omega)))⟩)⟩)
  (by kernel_rfl) Y K hK
theorem row_n (Y : Ys Prop) (l m r s : Int) (h : rgB l m r = false) (g : ¬ rgP l m r) (K : V → Mem → Prop) (hK : ∀ mm, K (.bool (roB l m r s)) mm) :
   body1 pA (callD pA tb0 la1 5) Y c47 [geo l m r, .int .i64 s] ⟨0, .leaf⟩ K :=
  walk_of_vc (mono1) (.wait 4 (.fix s6 (vb false) .nil))
  (show (vb (rgB l m r) = vb false ∧ vb false = vb (roB l m r s)) from
  ⟨(cb h), (oF fun x => g x.1)⟩)
  (by kernel_rfl) Y K hK
theorem row_y (Y : Ys Prop) (l m r s : Int) (h : rgB l m r = true) (g : rgP l m r) (K : V → Mem → Prop) (hK : ∀ mm, K (.bool (roB l m r s)) mm) :
   body1 pA (callD pA tb0 la1 5) Y c47 [geo l m r, .int .i64 s] ⟨0, .leaf⟩ K :=
  walk_of_vc (mono1) (.wait 4 (.fix s6 (vb true) (.wait 5 (.split s11 (decide ¬s < 0) .nil .nil))))
  (show (vb (rgB l m r) = vb true ∧ vb (nB (ltI s 0)) = vb (decide ¬s < 0) ∧ ((decide ¬s < 0) = true → (vb (ltI s r) = vb (roB l m r s))) ∧ ((decide ¬s < 0) = false → (vb false = vb (roB l m r s)))) from
  ⟨(cb h), cb ((congrArg Bool.not (ltD rfl rfl)).trans (notD _)), (sT fun p0 => (Eq.trans (cb (ltD rfl rfl)) (oD ⟨fun x => ⟨g, by omega⟩, fun x => by have := x.2; omega⟩))), (sF fun p0 => (oF fun x => by have := x.2; omega))⟩)
  (by kernel_rfl) Y K hK
theorem par_n (Y : Ys Prop) (l m r s : Int) (h : roB l m r s = false) (z : pz l m r s = 0) (K : V → Mem → Prop) (hK : ∀ mm, K (.tuple [.int .i64 0, .bool false]) mm) :
   body1 pA (callD pA tb0 la2 5) Y c27 [geo l m r, .int .i64 s] ⟨0, .leaf⟩ K :=
  walk_of_vc (mono2) (.wait 6 (.fix s9 (vb false) .nil))
  (show (vb (roB l m r s) = vb false ∧ V.tuple [vi (Int.ofNat 0), vb false] = V.tuple [vi 0, vb false]) from
  ⟨(cb h), (by rfl)⟩)
  (by kernel_rfl) Y K hK
theorem par_2 (Y : Ys Prop) (r s : Int) (h : roB 1 2 r s = true) (h1 : 0 ≤ s) (h2 : s < 64) (K : V → Mem → Prop) (hK : ∀ mm, K (.tuple [.int .i64 (1), .bool true]) mm) :
   body1 pA (callD pA tb0 la2 5) Y c27 [geo 1 2 r, .int .i64 s] ⟨0, .leaf⟩ K :=
  walk_of_vc (mono2) (.wait 6 (.fix s9 (vb true) .nil))
  (show (vb (roB 1 2 r s) = vb true ∧ V.tuple [vi (Int.ofNat 1), vb true] = V.tuple [vi 1, vb true]) from
  ⟨(cb h), (by rfl)⟩)
  (by kernel_rfl) Y K hK
theorem par_3_o0 (s : Int) (h1 : (0 : Int) ≤ s) (h2 : s < (64 : Int)) : (0 : Int) ≤ s := by omega
theorem par_3_o1 (s : Int) (h1 : (0 : Int) ≤ s) (h2 : s < (64 : Int)) : (-9223372036854775808 : Int) ≤ s / (2 : Int) := by omega
theorem par_3_o2 (s : Int) (h1 : (0 : Int) ≤ s) (h2 : s < (64 : Int)) : s / (2 : Int) ≤ (9223372036854775807 : Int) := by omega
theorem par_3_o3 (s : Int) (h1 : (0 : Int) ≤ s) (h2 : s < (64 : Int)) : (0 : Int) ≤ s / (2 : Int) := by omega
theorem par_3_o4 (s : Int) (h1 : (0 : Int) ≤ s) (h2 : s < (64 : Int)) : (-9223372036854775808 : Int) ≤ (2 : Int) - s / (2 : Int) % (3 : Int) := by omega
theorem par_3_o5 (s : Int) (h1 : (0 : Int) ≤ s) (h2 : s < (64 : Int)) : (2 : Int) - s / (2 : Int) % (3 : Int) ≤ (9223372036854775807 : Int) := by omega
theorem par_3 (Y : Ys Prop) (r s : Int) (h : roB 5 3 r s = true) (h1 : 0 ≤ s) (h2 : s < 64) (K : V → Mem → Prop) (hK : ∀ mm, K (.tuple [.int .i64 (2 - s / 2 % 3), .bool true]) mm) :
   body1 pA (callD pA tb0 la2 5) Y c27 [geo 5 3 r, .int .i64 s] ⟨0, .leaf⟩ K :=
  walk_of_vc (mono2) (.wait 6 (.fix s9 (vb true) (.wait 15 (.fix s19 (vi (s / 2)) (.wait 1 (.fix s22 (vi (s / 2 % 3)) (.wait 1 (.fix s23 (vi (2 - s / 2 % 3)) .nil))))))))
  (show (vb (roB 5 3 r s) = vb true ∧ vi (wr IntKind.i64 (Int.tdiv s 2)) = vi (s / 2) ∧ vi (Int.tmod (s / 2) 3) = vi (s / 2 % 3) ∧ vi (wr IntKind.i64 (subI 2 (s / 2 % 3))) = vi (2 - s / 2 % 3) ∧ rR (V.tuple [vi (2 - s / 2 % 3), vb true])) from
  ⟨(cb h), (ci (wE_i64 (tdivE rfl rfl (par_3_o0 s h1 h2)) (par_3_o1 s h1 h2) (par_3_o2 s h1 h2))), (ci (tmodE rfl rfl (par_3_o3 s h1 h2))), (ci (wE_i64 (subE rfl rfl) (par_3_o4 s h1 h2) (par_3_o5 s h1 h2))), (by rfl)⟩)
  (by kernel_rfl) Y K hK
theorem par_4_o4 (s : Int) (h1 : (0 : Int) ≤ s) (h2 : s < (64 : Int)) : (-9223372036854775808 : Int) ≤ (3 : Int) - s / (2 : Int) % (4 : Int) := by omega
theorem par_4_o5 (s : Int) (h1 : (0 : Int) ≤ s) (h2 : s < (64 : Int)) : (3 : Int) - s / (2 : Int) % (4 : Int) ≤ (9223372036854775807 : Int) := by omega
theorem par_4 (Y : Ys Prop) (r s : Int) (h : roB 5 4 r s = true) (h1 : 0 ≤ s) (h2 : s < 64) (K : V → Mem → Prop) (hK : ∀ mm, K (.tuple [.int .i64 (3 - s / 2 % 4), .bool true]) mm) :
   body1 pA (callD pA tb0 la2 5) Y c27 [geo 5 4 r, .int .i64 s] ⟨0, .leaf⟩ K :=
  walk_of_vc (mono2) (.wait 6 (.fix s9 (vb true) (.wait 15 (.fix s19 (vi (s / 2)) (.wait 1 (.fix s22 (vi (s / 2 % 4)) (.wait 1 (.fix s23 (vi (3 - s / 2 % 4)) .nil))))))))
  (show (vb (roB 5 4 r s) = vb true ∧ vi (wr IntKind.i64 (Int.tdiv s 2)) = vi (s / 2) ∧ vi (Int.tmod (s / 2) 4) = vi (s / 2 % 4) ∧ vi (wr IntKind.i64 (subI 3 (s / 2 % 4))) = vi (3 - s / 2 % 4) ∧ rR (V.tuple [vi (3 - s / 2 % 4), vb true])) from
  ⟨(cb h), (ci (wE_i64 (tdivE rfl rfl (par_3_o0 s h1 h2)) (par_3_o1 s h1 h2) (par_3_o2 s h1 h2))), (ci (tmodE rfl rfl (par_3_o3 s h1 h2))), (ci (wE_i64 (subE rfl rfl) (par_4_o4 s h1 h2) (par_4_o5 s h1 h2))), (by rfl)⟩)
  (by kernel_rfl) Y K hK
theorem data_n (Y : Ys Prop) (l m r s : Int) (o : roB l m r s = false) (z : pz l m r s = 0) (K : V → Mem → Prop) (hK : ∀ mm, K (.nilslice) mm) :
   body1 pA (callD pA tb0 la3 5) Y c16 [geo l m r, .int .i64 s] ⟨0, .leaf⟩ K :=
  walk_of_vc (mono3) (.wait 5 (.fix s12 (V.tuple [vi 0, vb false]) .nil))
  (show (V.tuple [vi (pz l m r s), vb (roB l m r s)] = V.tuple [vi 0, vb false] ∧ V.nilslice = V.nilslice) from
  ⟨(congrArg V.tuple (consE (ci z) (consE (cb o) rfl))), (by rfl)⟩)
  (by kernel_rfl) Y K hK
theorem data_2_o0 (p : Int) (p0 : (0 : Int) ≤ p) (p1 : p < (2 : Int)) : (-9223372036854775808 : Int) ≤ p + (1 : Int) := by omega
theorem data_2_o1 (p : Int) (p0 : (0 : Int) ≤ p) (p1 : p < (2 : Int)) : p + (1 : Int) ≤ (9223372036854775807 : Int) := by omega
theorem data_2_o2 (p : Int) (p0 : (0 : Int) ≤ p) (p1 : p < (2 : Int)) : (-9223372036854775808 : Int) ≤ p + (1 : Int) + (0 : Int) := by omega
theorem data_2_o3 (p : Int) (p0 : (0 : Int) ≤ p) (p1 : p < (2 : Int)) : p + (1 : Int) + (0 : Int) ≤ (9223372036854775807 : Int) := by omega
theorem data_2_o4 (p : Int) (p0 : (0 : Int) ≤ p) (p1 : p < (2 : Int)) : (0 : Int) ≤ p + (1 : Int) + (0 : Int) := by omega
theorem data_2 (Y : Ys Prop) (r s p : Int) (o : roB 1 2 r s = true) (hp : pz 1 2 r s = p) (p0 : 0 ≤ p) (p1 : p < 2) :
   body1 pA (callD pA tb0 la3 5) Y c16 [geo 1 2 r, .int .i64 s] ⟨0, .leaf⟩ (endL (Lay.new (Hd.slice 1 1) none (AObj.cells [.int .i64 ((p + 1 + 0) % 2)] false))) :=
  walkL_of_vc (mono3) (.wait 5 (.fix s12 (V.tuple [vi p, vb true]) (.wait 22 (.fix s25 (vi (p + 1)) (.wait 3 (.fix s27 (vi (p + 1 + 0)) (.wait 1 (.fix s30 (vi ((p + 1 + 0) % 2)) .nil))))))))
  (show (V.tuple [vi (pz 1 2 r s), vb (roB 1 2 r s)] = V.tuple [vi p, vb true] ∧ vi (wr IntKind.i64 (addI p 1)) = vi (p + 1) ∧ vi (wr IntKind.i64 (addI (p + 1) 0)) = vi (p + 1 + 0) ∧ vi (Int.tmod (p + 1 + 0) 2) = vi ((p + 1 + 0) % 2) ∧ V.slice 2 0 1 1 1 = layV (Hd.slice 1 1) none 2 ∧ rR (some (oC [vi ((p + 1 + 0) % 2)] false))) from
  ⟨(congrArg V.tuple (consE (ci hp) (consE (cb o) rfl))), (ci (wE_i64 (addE rfl rfl) (data_2_o0 p p0 p1) (data_2_o1 p p0 p1))), (ci (wE_i64 (addE rfl rfl) (data_2_o2 p p0 p1) (data_2_o3 p p0 p1))), (ci (tmodE rfl rfl (data_2_o4 p p0 p1))), (by exact ⟨rfl, rfl⟩)⟩)
  (by kernel_rfl) Y
theorem data_3_o0 (p : Int) (p0 : (0 : Int) ≤ p) (p1 : p < (3 : Int)) : (-9223372036854775808 : Int) ≤ p + (1 : Int) := by omega
theorem data_3_o1 (p : Int) (p0 : (0 : Int) ≤ p) (p1 : p < (3 : Int)) : p + (1 : Int) ≤ (9223372036854775807 : Int) := by omega
theorem data_3_o2 (p : Int) (p0 : (0 : Int) ≤ p) (p1 : p < (3 : Int)) : (-9223372036854775808 : Int) ≤ p + (1 : Int) + (0 : Int) := by omega
theorem data_3_o3 (p : Int) (p0 : (0 : Int) ≤ p) (p1 : p < (3 : Int)) : p + (1 : Int) + (0 : Int) ≤ (9223372036854775807 : Int) := by omega
theorem data_3_o4 (p : Int) (p0 : (0 : Int) ≤ p) (p1 : p < (3 : Int)) : (0 : Int) ≤ p + (1 : Int) + (0 : Int) := by omega
theorem data_3_o5 (p : Int) (p0 : (0 : Int) ≤ p) (p1 : p < (3 : Int)) : (-9223372036854775808 : Int) ≤ p + (2 : Int) := by omega
theorem data_3_o6 (p : Int) (p0 : (0 : Int) ≤ p) (p1 : p < (3 : Int)) : p + (2 : Int) ≤ (9223372036854775807 : Int) := by omega
theorem data_3_o7 (p : Int) (p0 : (0 : Int) ≤ p) (p1 : p < (3 : Int)) : (0 : Int) ≤ p + (2 : Int) := by omega
theorem data_3 (Y : Ys Prop) (r s p : Int) (o : roB 5 3 r s = true) (hp : pz 5 3 r s = p) (p0 : 0 ≤ p) (p1 : p < 3) :
   body1 pA (callD pA tb0 la3 5) Y c16 [geo 5 3 r, .int .i64 s] ⟨0, .leaf⟩ (endL (Lay.new (Hd.slice 2 1) none (AObj.cells [.int .i64 ((p + 1 + 0) % 3), .int .i64 ((p + 2) % 3)] false))) :=
  walkL_of_vc (mono3) (.wait 5 (.fix s12 (V.tuple [vi p, vb true]) (.wait 22 (.fix s25 (vi (p + 1)) (.wait 3 (.fix s27 (vi (p + 1 + 0)) (.wait 1 (.fix s30 (vi ((p + 1 + 0) % 3)) (.wait 13 (.fix s25 (vi (p + 1)) (.wait 3 (.fix s27 (vi (p + 2)) (.wait 1 (.fix s30 (vi ((p + 2) % 3)) .nil))))))))))))))
  (show (V.tuple [vi (pz 5 3 r s), vb (roB 5 3 r s)] = V.tuple [vi p, vb true] ∧ vi (wr IntKind.i64 (addI p 1)) = vi (p + 1) ∧ vi (wr IntKind.i64 (addI (p + 1) 0)) = vi (p + 1 + 0) ∧ vi (Int.tmod (p + 1 + 0) 3) = vi ((p + 1 + 0) % 3) ∧ vi (wr IntKind.i64 (addI p 1)) = vi (p + 1) ∧ vi (wr IntKind.i64 (addI (p + 1) 1)) = vi (p + 2) ∧ vi (Int.tmod (p + 2) 3) = vi ((p + 2) % 3) ∧ V.slice 4 0 2 2 1 = layV (Hd.slice 2 1) none 4 ∧ rR (some (oC [vi ((p + 1 + 0) % 3), vi ((p + 2) % 3)] false))) from
  ⟨(congrArg V.tuple (consE (ci hp) (consE (cb o) rfl))), (ci (wE_i64 (addE rfl rfl) (data_3_o0 p p0 p1) (data_3_o1 p p0 p1))), (ci (wE_i64 (addE rfl rfl) (data_3_o2 p p0 p1) (data_3_o3 p p0 p1))), (ci (tmodE rfl rfl (data_3_o4 p p0 p1))), (ci (wE_i64 (addE rfl rfl) (data_3_o0 p p0 p1) (data_3_o1 p p0 p1))), (ci (wE_i64 ((addE rfl rfl).trans (Int.add_assoc _ _ _)) (data_3_o5 p p0 p1) (data_3_o6 p p0 p1))), (ci (tmodE rfl rfl (data_3_o7 p p0 p1))), (by exact ⟨rfl, rfl⟩)⟩)
  (by kernel_rfl) Y
theorem data_4_o0 (p : Int) (p0 : (0 : Int) ≤ p) (p1 : p < (4 : Int)) : (-9223372036854775808 : Int) ≤ p + (1 : Int) := by omega
theorem data_4_o1 (p : Int) (p0 : (0 : Int) ≤ p) (p1 : p < (4 : Int)) : p + (1 : Int) ≤ (9223372036854775807 : Int) := by omega
theorem data_4_o2 (p : Int) (p0 : (0 : Int) ≤ p) (p1 : p < (4 : Int)) : (-9223372036854775808 : Int) ≤ p + (1 : Int) + (0 : Int) := by omega
theorem data_4_o3 (p : Int) (p0 : (0 : Int) ≤ p) (p1 : p < (4 : Int)) : p + (1 : Int) + (0 : Int) ≤ (9223372036854775807 : Int) := by omega
theorem data_4_o4 (p : Int) (p0 : (0 : Int) ≤ p) (p1 : p < (4 : Int)) : (0 : Int) ≤ p + (1 : Int) + (0 : Int) := by omega
theorem data_4_o5 (p : Int) (p0 : (0 : Int) ≤ p) (p1 : p < (4 : Int)) : (-9223372036854775808 : Int) ≤ p + (2 : Int) := by omega
theorem data_4_o6 (p : Int) (p0 : (0 : Int) ≤ p) (p1 : p < (4 : Int)) : p + (2 : Int) ≤ (9223372036854775807 : Int) := by omega
theorem data_4_o7 (p : Int) (p0 : (0 : Int) ≤ p) (p1 : p < (4 : Int)) : (0 : Int) ≤ p + (2 : Int) := by omega
theorem data_4_o8 (p : Int) (p0 : (0 : Int) ≤ p) (p1 : p < (4 : Int)) : (-9223372036854775808 : Int) ≤ p + (3 : Int) := by omega
theorem data_4_o9 (p : Int) (p0 : (0 : Int) ≤ p) (p1 : p < (4 : Int)) : p + (3 : Int) ≤ (9223372036854775807 : Int) := by omega
theorem data_4_o10 (p : Int) (p0 : (0 : Int) ≤ p) (p1 : p < (4 : Int)) : (0 : Int) ≤ p + (3 : Int) := by omega
theorem data_4 (Y : Ys Prop) (r s p : Int) (o : roB 5 4 r s = true) (hp : pz 5 4 r s = p) (p0 : 0 ≤ p) (p1 : p < 4) :
   body1 pA (callD pA tb0 la3 5) Y c16 [geo 5 4 r, .int .i64 s] ⟨0, .leaf⟩ (endL (Lay.new (Hd.slice 3 1) none (AObj.cells [.int .i64 ((p + 1 + 0) % 4), .int .i64 ((p + 2) % 4), .int .i64 ((p + 3) % 4)] false))) :=
  walkL_of_vc (mono3) (.wait 5 (.fix s12 (V.tuple [vi p, vb true]) (.wait 22 (.fix s25 (vi (p + 1)) (.wait 3 (.fix s27 (vi (p + 1 + 0)) (.wait 1 (.fix s30 (vi ((p + 1 + 0) % 4)) (.wait 13 (.fix s25 (vi (p + 1)) (.wait 3 (.fix s27 (vi (p + 2)) (.wait 1 (.fix s30 (vi ((p + 2) % 4)) (.wait 13 (.fix s25 (vi (p + 1)) (.wait 3 (.fix s27 (vi (p + 3)) (.wait 1 (.fix s30 (vi ((p + 3) % 4)) .nil))))))))))))))))))))
  (show (V.tuple [vi (pz 5 4 r s), vb (roB 5 4 r s)] = V.tuple [vi p, vb true] ∧ vi (wr IntKind.i64 (addI p 1)) = vi (p + 1) ∧ vi (wr IntKind.i64 (addI (p + 1) 0)) = vi (p + 1 + 0) ∧ vi (Int.tmod (p + 1 + 0) 4) = vi ((p + 1 + 0) % 4) ∧ vi (wr IntKind.i64 (addI p 1)) = vi (p + 1) ∧ vi (wr IntKind.i64 (addI (p + 1) 1)) = vi (p + 2) ∧ vi (Int.tmod (p + 2) 4) = vi ((p + 2) % 4) ∧ vi (wr IntKind.i64 (addI p 1)) = vi (p + 1) ∧ vi (wr IntKind.i64 (addI (p + 1) 2)) = vi (p + 3) ∧ vi (Int.tmod (p + 3) 4) = vi ((p + 3) % 4) ∧ V.slice 6 0 3 3 1 = layV (Hd.slice 3 1) none 6 ∧ rR (some (oC [vi ((p + 1 + 0) % 4), vi ((p + 2) % 4), vi ((p + 3) % 4)] false))) from
  ⟨(congrArg V.tuple (consE (ci hp) (consE (cb o) rfl))), (ci (wE_i64 (addE rfl rfl) (data_4_o0 p p0 p1) (data_4_o1 p p0 p1))), (ci (wE_i64 (addE rfl rfl) (data_4_o2 p p0 p1) (data_4_o3 p p0 p1))), (ci (tmodE rfl rfl (data_4_o4 p p0 p1))), (ci (wE_i64 (addE rfl rfl) (data_4_o0 p p0 p1) (data_4_o1 p p0 p1))), (ci (wE_i64 ((addE rfl rfl).trans (Int.add_assoc _ _ _)) (data_4_o5 p p0 p1) (data_4_o6 p p0 p1))), (ci (tmodE rfl rfl (data_4_o7 p p0 p1))), (ci (wE_i64 (addE rfl rfl) (data_4_o0 p p0 p1) (data_4_o1 p p0 p1))), (ci (wE_i64 ((addE rfl rfl).trans (Int.add_assoc _ _ _)) (data_4_o8 p p0 p1) (data_4_o9 p p0 p1))), (ci (tmodE rfl rfl (data_4_o10 p p0 p1))), (by exact ⟨rfl, rfl⟩)⟩)
  (by kernel_rfl) Y
theorem ro_t {l m r s : Int} : roB l m r s = true ↔ rgP l m r ∧ 0 ≤ s ∧ s < r := by rw [roB_eq, decide_eq_true_eq]
theorem ro_f {l m r s : Int} (h : ¬ (rgP l m r ∧ 0 ≤ s ∧ s < r)) : roB l m r s = false := by rw [roB_eq, decide_eq_false h]
theorem rg_t {l m r : Int} (h : rgP l m r) : rgB l m r = true := by rw [rgB_eq, decide_eq_true h]
theorem rg_f {l m r : Int} (h : ¬ rgP l m r) : rgB l m r = false := by rw [rgB_eq, decide_eq_false h]
theorem pz_1 {r x : Int} (g : rgP 1 2 r) (h0 : 0 ≤ x) (h1 : x < r) : pz 1 2 r x = 1 := by rw [pz_eq, if_pos ⟨g, h0, h1⟩, if_pos rfl]
theorem pz_5 {m r x : Int} (g : rgP 5 m r) (h0 : 0 ≤ x) (h1 : x < r) : pz 5 m r x = m - 1 - x / 2 % m := by rw [pz_eq, if_pos ⟨g, h0, h1⟩, if_neg (by decide)]
theorem pz_0 {l m r s : Int} (h : roB l m r s = false) : pz l m r s = 0 := by
  rw [pz_eq, if_neg]; intro x; rw [ro_t.2 x] at h; cases h
theorem row_walk (Y : Ys Prop) (l m r s : Int) (K : V → Mem → Prop) (hK : ∀ mm, K (.bool (roB l m r s)) mm) : body1 pA (callD pA tb0 la1 5) Y c47 [geo l m r, .int .i64 s] ⟨0, .leaf⟩ K := by
  by_cases g : rgP l m r
  · exact row_y Y l m r s (rg_t g) g K hK
  · exact row_n Y l m r s (rg_f g) g K hK
theorem par_walk (Y : Ys Prop) (l m r s : Int) (K : V → Mem → Prop) (hK : ∀ mm, K (.tuple [.int .i64 (pz l m r s), .bool (roB l m r s)]) mm) : body1 pA (callD pA tb0 la2 5) Y c27 [geo l m r, .int .i64 s] ⟨0, .leaf⟩ K := by
  by_cases h : rgP l m r ∧ 0 ≤ s ∧ s < r
  · have ho := ro_t.2 h
    rw [ho] at hK
    obtain ⟨g, s0, s1⟩ := h
    have g' := g
    obtain ⟨h1, h2, h3, h4⟩ := g
    rcases h1 with ⟨rfl, rfl⟩ | ⟨rfl, rfl | rfl⟩
    · exact par_2 Y r s ho s0 (by omega) K fun mm => by have h := hK mm; rw [pz_1 g' s0 s1] at h; exact h
    · exact par_3 Y r s ho s0 (by omega) K fun mm => by have h := hK mm; rw [pz_5 g' s0 s1, show (3 : Int) - 1 = 2 from rfl] at h; exact h
    · exact par_4 Y r s ho s0 (by omega) K fun mm => by have h := hK mm; rw [pz_5 g' s0 s1, show (4 : Int) - 1 = 3 from rfl] at h; exact h
  · have ho := ro_f h
    exact par_n Y l m r s ho (pz_0 ho) K fun mm => by have k := hK mm; rw [pz_0 ho, ho] at k; exact k
theorem pz_rng {l m r s : Int} (o : roB l m r s = true) : 0 ≤ pz l m r s ∧ pz l m r s < m := by
  obtain ⟨g, s0, s1⟩ := ro_t.1 o
  have g' := g
  obtain ⟨h1, h2, h3, h4⟩ := g
  rcases h1 with ⟨rfl, rfl⟩ | ⟨rfl, rfl | rfl⟩
  · rw [pz_1 g' s0 s1]; omega
  · rw [pz_5 g' s0 s1]; omega
  · rw [pz_5 g' s0 s1]; omega
theorem data_walk (Y : Ys Prop) (l m r s : Int) (o : roB l m r s = true) : body1 pA (callD pA tb0 la3 5) Y c16 [geo l m r, .int .i64 s] ⟨0, .leaf⟩ (endL (.new (.slice (m - 1).toNat 1) none (.cells (dataF m (pz l m r s)) false))) := by
  have pr := pz_rng o
  obtain ⟨g, s0, s1⟩ := ro_t.1 o
  obtain ⟨h1, h2, h3, h4⟩ := g
  rcases h1 with ⟨rfl, rfl⟩ | ⟨rfl, rfl | rfl⟩
  · have e : dataF 2 (pz 1 2 r s) = [.int .i64 ((pz 1 2 r s + 1 + 0) % 2)] := by
      show [V.int .i64 ((pz 1 2 r s + 1 + ((0 : Nat) : Int)) % 2)] = _
      rw [show pz 1 2 r s + 1 + ((0 : Nat) : Int) = pz 1 2 r s + 1 + 0 from rfl]
    rw [e]
    exact data_2 Y r s _ o rfl pr.1 pr.2
  · have e : dataF 3 (pz 5 3 r s) = [.int .i64 ((pz 5 3 r s + 1 + 0) % 3), .int .i64 ((pz 5 3 r s + 2) % 3)] := by
      show [V.int .i64 ((pz 5 3 r s + 1 + ((0 : Nat) : Int)) % 3), V.int .i64 ((pz 5 3 r s + 1 + ((1 : Nat) : Int)) % 3)] = _
      rw [show pz 5 3 r s + 1 + ((0 : Nat) : Int) = pz 5 3 r s + 1 + 0 from rfl, show pz 5 3 r s + 1 + ((1 : Nat) : Int) = pz 5 3 r s + 2 by omega]
    rw [e]
    exact data_3 Y r s _ o rfl pr.1 pr.2
  · have e : dataF 4 (pz 5 4 r s) = [.int .i64 ((pz 5 4 r s + 1 + 0) % 4), .int .i64 ((pz 5 4 r s + 2) % 4), .int .i64 ((pz 5 4 r s + 3) % 4)] := by
      show [V.int .i64 ((pz 5 4 r s + 1 + ((0 : Nat) : Int)) % 4), V.int .i64 ((pz 5 4 r s + 1 + ((1 : Nat) : Int)) % 4), V.int .i64 ((pz 5 4 r s + 1 + ((2 : Nat) : Int)) % 4)] = _
      rw [show pz 5 4 r s + 1 + ((0 : Nat) : Int) = pz 5 4 r s + 1 + 0 from rfl, show pz 5 4 r s + 1 + ((1 : Nat) : Int) = pz 5 4 r s + 2 by omega, show pz 5 4 r s + 1 + ((2 : Nat) : Int) = pz 5 4 r s + 3 by omega]
    rw [e]
    exact data_4 Y r s _ o rfl pr.1 pr.2
theorem plain_dataF (m p : Int) : plains (dataF m p) = true := by
  unfold dataF
  induction dataL m p with
  | nil => rfl
  | cons x l ih => simpa [plains, V.plain] using ih
theorem tb0_ok {P : Program} : TabOk P tb0 := fun _ _ h => by cases h
theorem la0_ok {P : Program} : LastOk P la0 id := last_none (A := pA) pHolds
section
variable {P : Program}
variable (hmix : P.follows .mixedOrders = true)
include hmix
theorem la1_ok (o : FOk P 61 c61) : LastOk P la1 id := lastFn_ok (callable_fok o) (fun ρ args args' v hv ha => by
  unfold R61 at hv; split at hv
  · cases hv; exact answers_of_walk hmix o (callD_sound pHolds hmix tb0_ok la0_ok 5) ha rfl rfl (fun K hK => right _ _ _ _ K hK)
  · cases hv) la0_ok
theorem la2_ok (o1 : FOk P 61 c61) (o : FOk P 47 c47) : LastOk P la2 id := lastFn_ok (callable_fok o) (fun ρ args args' v hv ha => by
  unfold R47 at hv; split at hv
  · cases hv; exact answers_of_walk hmix o (callD_sound pHolds hmix tb0_ok (la1_ok hmix o1) 5) ha rfl rfl (fun K hK => row_walk _ _ _ _ _ K hK)
  · cases hv) (la1_ok hmix o1)
theorem par_ans (o1 : FOk P 61 c61) (o2 : FOk P 47 c47) (o : FOk P 27 c27) (l m r s : Int) {ρ : Ren} {args' : List Value} (ha : VRs ρ [geo l m r, .int .i64 s] args') : Answers P 27 args' (.tuple [.int .i64 (pz l m r s), .bool (roB l m r s)]) :=
  answers_of_walk hmix o (callD_sound pHolds hmix tb0_ok (la2_ok hmix o1 o2) 5) ha rfl rfl (fun K hK => par_walk _ _ _ _ _ K hK)
theorem la3_ok (o1 : FOk P 61 c61) (o2 : FOk P 47 c47) (o : FOk P 27 c27) : LastOk P la3 id := lastFn_ok (callable_fok o) (fun ρ args args' v hv ha => by
  unfold R27 at hv; split at hv
  · cases hv; exact par_ans hmix o1 o2 o _ _ _ _ ha
  · cases hv) (la2_ok hmix o1 o2)
theorem data_ans (o1 : FOk P 61 c61) (o2 : FOk P 47 c47) (o3 : FOk P 27 c27) (o : FOk P 16 c16) {l m r s : Int} (h : roB l m r s = true) {ρ : Ren} {args' : List Value} (ha : VRs ρ [geo l m r, .int .i64 s] args') : AnswersL P 16 args' (.new (.slice (m - 1).toNat 1) none (.cells (dataF m (pz l m r s)) false)) :=
  answersL_walk hmix o (callD_sound pHolds hmix tb0_ok (la3_ok hmix o1 o2 o3) 5) ha rfl (by show (true && (!false && plains (dataF m (pz l m r s)))) = true; rw [plain_dataF]; rfl) (data_walk Ys.none l m r s h)
theorem data_nil (o1 : FOk P 61 c61) (o2 : FOk P 47 c47) (o3 : FOk P 27 c27) (o : FOk P 16 c16) {l m r s : Int} (h : roB l m r s = false) {ρ : Ren} {args' : List Value} (ha : VRs ρ [geo l m r, .int .i64 s] args') : AnswersL P 16 args' (.plain .nilslice) := by
  intro w
  exact (answers_of_walk hmix o (callD_sound pHolds hmix tb0_ok (la3_ok hmix o1 o2 o3) 5) ha rfl rfl (fun K hK => data_n _ _ _ _ _ h (pz_0 h) K hK) w).mono fun e w' ⟨v', he, hv, hs⟩ => ⟨v', he, hs, hv⟩
end
end Go.Proofs.Ytjikaankdnmabaa
