/- Runs of package place's functions by script. No condition. -/
import Derived.Test.YtefklpegpecliaaTD
namespace Go.Proofs.Ytefklpegpecliaa
open Go Go.AM
set_option maxRecDepth 100000
set_option maxHeartbeats 0
set_option linter.unusedVariables false
theorem right_o0 (r : Int) (h2 : (decide ¬r < (2 : Int)) = true) (p2 : ¬r < (2 : Int)) (h3 : (decide ¬(64 : Int) < r) = true) (p3 : ¬(64 : Int) < r) : (0 : Int) ≤ r := by omega
theorem right_o1 (l : Int) (h0 : decide (l = (1 : Int)) = true) (p0 : l = (1 : Int)) : ¬l = (5 : Int) := by omega
theorem right_o2 (r : Int) (h6 : (decide ¬r < (2 : Int)) = true) (p6 : ¬r < (2 : Int)) (h7 : (decide ¬(64 : Int) < r) = true) (p7 : ¬(64 : Int) < r) : (0 : Int) ≤ r := by omega
theorem right_o3 (r : Int) (h9 : (decide ¬r < (2 : Int)) = true) (p9 : ¬r < (2 : Int)) (h10 : (decide ¬(64 : Int) < r) = true) (p10 : ¬(64 : Int) < r) : (0 : Int) ≤ r := by omega
theorem right (Y : Ys Prop) (l m r : Int) (K : V → Mem → Prop) (hK : ∀ mm, K (.bool (rgB l m r)) mm) :
   body1 pA (callD pA tb0 la0 5) Y c10 [geo l m r] ⟨0, .leaf⟩ K :=
  walk_of_vc (mono_false) (.wait 6 (.split s7 (decide (l = 1)) (.wait 5 (.split s12 (decide (m = 2)) (.wait 22 (.split s33 (decide ¬r < 2) (.wait 5 (.split s38 (decide ¬64 < r) (.wait 3 (.fix s41 (vi (r % 2)) .nil)) .nil)) .nil)) (.wait 3 (.fix s15 (vb false) .nil)))) (.wait 9 (.split s16 (decide (l = 5)) (.wait 4 (.split s20 (decide (m = 3)) (.wait 14 (.split s33 (decide ¬r < 2) (.wait 5 (.split s38 (decide ¬64 < r) (.wait 3 (.fix s41 (vi (r % 2)) .nil)) .nil)) .nil)) (.wait 9 (.split s28 (decide (m = 4)) (.wait 5 (.split s33 (decide ¬r < 2) (.wait 5 (.split s38 (decide ¬64 < r) (.wait 3 (.fix s41 (vi (r % 2)) .nil)) .nil)) .nil)) .nil)))) .nil))))
  (show (vb (eqI l 1) = vb (decide (l = 1)) ∧ ((decide (l = 1)) = true → (vb (eqI m 2) = vb (decide (m = 2)) ∧ ((decide (m = 2)) = true → (vb (nB (ltI r 2)) = vb (decide ¬r < 2) ∧ ((decide ¬r < 2) = true → (vb (nB (ltI 64 r)) = vb (decide ¬64 < r) ∧ ((decide ¬64 < r) = true → (vi (Int.tmod r 2) = vi (r % 2) ∧ vb (eqI (r % 2) 0) = vb (rgB l m r))) ∧ ((decide ¬64 < r) = false → (vb false = vb (rgB l m r))))) ∧ ((decide ¬r < 2) = false → (vb false = vb (rgB l m r))))) ∧ ((decide (m = 2)) = false → (vb (eqI l 5) = vb false ∧ vb false = vb (rgB l m r))))) ∧ ((decide (l = 1)) = false → (vb (eqI l 5) = vb (decide (l = 5)) ∧ ((decide (l = 5)) = true → (vb (eqI m 3) = vb (decide (m = 3)) ∧ ((decide (m = 3)) = true → (vb (nB (ltI r 2)) = vb (decide ¬r < 2) ∧ ((decide ¬r < 2) = true → (vb (nB (ltI 64 r)) = vb (decide ¬64 < r) ∧ ((decide ¬64 < r) = true → (vi (Int.tmod r 2) = vi (r % 2) ∧ vb (eqI (r % 2) 0) = vb (rgB l m r))) ∧ ((decide ¬64 < r) = false → (vb false = vb (rgB l m r))))) ∧ ((decide ¬r < 2) = false → (vb false = vb (rgB l m r))))) ∧ ((decide (m = 3)) = false → (vb (eqI m 4) = vb (decide (m = 4)) ∧ ((decide (m = 4)) = true → (vb (nB (ltI r 2)) = vb (decide ¬r < 2) ∧ ((decide ¬r < 2) = true → (vb (nB (ltI 64 r)) = vb (decide ¬64 < r) ∧ ((decide ¬64 < r) = true → (vi (Int.tmod r 2) = vi (r % 2) ∧ vb (eqI (r % 2) 0) = vb (rgB l m r))) ∧ ((decide ¬64 < r) = false → (vb false = vb (rgB l m r))))) ∧ ((decide ¬r < 2) = false → (vb false = vb (rgB l m r))))) ∧ ((decide (m = 4)) = false → (vb false = vb (rgB l m r))))))) ∧ ((decide (l = 5)) = false → (vb false = vb (rgB l m r)))))) from
  ⟨cb (eqD rfl rfl), (fun h0 => have p0 := dT h0; ⟨cb (eqD rfl rfl), (sT fun p1 => ⟨cb ((congrArg Bool.not (ltD rfl rfl)).trans (notD _)), (fun h2 => have p2 := dT h2; ⟨cb ((congrArg Bool.not (ltD rfl rfl)).trans (notD _)), (fun h3 => have p3 := dT h3; ⟨(ci (tmodE rfl rfl (right_o0 r h2 p2 h3 p3))), (Eq.trans (cb (eqD rfl rfl)) (gD (by unfold rgP; omega)))⟩), (sF fun p3 => (gF (by unfold rgP; omega)))⟩), (sF fun p2 => (gF (by unfold rgP; omega)))⟩), (sF fun p1 => ⟨(cb (eqF rfl rfl (right_o1 l h0 p0))), (gF (by unfold rgP; omega))⟩)⟩), (sF fun p0 => ⟨cb (eqD rfl rfl), (sT fun p4 => ⟨cb (eqD rfl rfl), (sT fun p5 => ⟨cb ((congrArg Bool.not (ltD rfl rfl)).trans (notD _)), (fun h6 => have p6 := dT h6; ⟨cb ((congrArg Bool.not (ltD rfl rfl)).trans (notD _)), (fun h7 => have p7 := dT h7; ⟨(ci (tmodE rfl rfl (right_o2 r h6 p6 h7 p7))), (Eq.trans (cb (eqD rfl rfl)) (gD (by unfold rgP; omega)))⟩), (sF fun p7 => (gF (by unfold rgP; omega)))⟩), (sF fun p6 => (gF (by unfold rgP; omega)))⟩), (sF fun p5 => ⟨cb (eqD rfl rfl), (sT fun p8 => ⟨cb ((congrArg Bool.not (ltD rfl rfl)).trans (notD _)), (fun h9 => have p9 := dT h9; ⟨cb ((congrArg Bool.not (ltD rfl rfl)).trans (notD _)), (fun h10 => have p10 := dT h10; ⟨(ci (tmodE rfl rfl (right_o3 r h9 p9 h10 p10))), (Eq.trans (cb (eqD rfl rfl)) (gD (by unfold rgP; omega)))⟩), (sF fun p10 => (gF (by unfold rgP; omega)))⟩), (sF fun p9 => (gF (by unfold rgP; omega)))⟩), (sF fun p8 => (gF (by unfold rgP; omega)))⟩)⟩), (sF fun p4 => (gF (by unfold rgP; omega)))⟩)⟩)
  (by kernel_rfl) Y K hK


theorem size_n (Y : Ys Prop) (l m r : Int) (h : rgB l m r = false) (z : sz l m r = 0) (K : V → Mem → Prop) (hK : ∀ mm, K (.int .i64 0) mm) :
   body1 pA (callD pA tb0 la1 5) Y c13 [geo l m r] ⟨0, .leaf⟩ K :=
  walk_of_vc (mono1) (.wait 4 (.fix s4 (vb false) .nil))
  (show (vb (rgB l m r) = vb false ∧ vi (Int.ofNat 0) = vi 0) from
  ⟨(cb h), (by rfl)⟩)
  (by kernel_rfl) Y K hK

theorem size_2_o0 (r : Int) (h : rgB (1 : Int) (2 : Int) r = true) (h1 : (2 : Int) ≤ r) (h2 : r ≤ (64 : Int)) : (-9223372036854775808 : Int) ≤ r * (1 : Int) := by omega
theorem size_2_o1 (r : Int) (h : rgB (1 : Int) (2 : Int) r = true) (h1 : (2 : Int) ≤ r) (h2 : r ≤ (64 : Int)) : r * (1 : Int) ≤ (9223372036854775807 : Int) := by omega
theorem size_2 (Y : Ys Prop) (r : Int) (h : rgB 1 2 r = true) (h1 : 2 ≤ r) (h2 : r ≤ 64) (K : V → Mem → Prop) (hK : ∀ mm, K (.int .i64 (r * 1)) mm) :
   body1 pA (callD pA tb0 la1 5) Y c13 [geo 1 2 r] ⟨0, .leaf⟩ K :=
  walk_of_vc (mono1) (.wait 4 (.fix s4 (vb true) (.wait 8 (.fix s11 (vi (r * 1)) .nil))))
  (show (vb (rgB 1 2 r) = vb true ∧ vi (wr IntKind.i64 (mulI r 1)) = vi (r * 1) ∧ vi (r * 1) = vi (r * 1)) from
  ⟨(cb h), (ci (wE_i64 (mulE rfl rfl) (size_2_o0 r h h1 h2) (size_2_o1 r h h1 h2))), (Eq.trans (ci (hmulE rfl rfl)) (by rfl))⟩)
  (by kernel_rfl) Y K hK

theorem size_3_o0 (r : Int) (h : rgB (5 : Int) (3 : Int) r = true) (h1 : (2 : Int) ≤ r) (h2 : r ≤ (64 : Int)) : (-9223372036854775808 : Int) ≤ r * (2 : Int) := by omega
theorem size_3_o1 (r : Int) (h : rgB (5 : Int) (3 : Int) r = true) (h1 : (2 : Int) ≤ r) (h2 : r ≤ (64 : Int)) : r * (2 : Int) ≤ (9223372036854775807 : Int) := by omega
theorem size_3 (Y : Ys Prop) (r : Int) (h : rgB 5 3 r = true) (h1 : 2 ≤ r) (h2 : r ≤ 64) (K : V → Mem → Prop) (hK : ∀ mm, K (.int .i64 (r * 2)) mm) :
   body1 pA (callD pA tb0 la1 5) Y c13 [geo 5 3 r] ⟨0, .leaf⟩ K :=
  walk_of_vc (mono1) (.wait 4 (.fix s4 (vb true) (.wait 8 (.fix s11 (vi (r * 2)) .nil))))
  (show (vb (rgB 5 3 r) = vb true ∧ vi (wr IntKind.i64 (mulI r 2)) = vi (r * 2) ∧ vi (r * 2) = vi (r * 2)) from
  ⟨(cb h), (ci (wE_i64 (mulE rfl rfl) (size_3_o0 r h h1 h2) (size_3_o1 r h h1 h2))), (Eq.trans (ci (hmulE rfl rfl)) (by rfl))⟩)
  (by kernel_rfl) Y K hK

theorem size_4_o0 (r : Int) (h : rgB (5 : Int) (4 : Int) r = true) (h1 : (2 : Int) ≤ r) (h2 : r ≤ (64 : Int)) : (-9223372036854775808 : Int) ≤ r * (3 : Int) := by omega
theorem size_4_o1 (r : Int) (h : rgB (5 : Int) (4 : Int) r = true) (h1 : (2 : Int) ≤ r) (h2 : r ≤ (64 : Int)) : r * (3 : Int) ≤ (9223372036854775807 : Int) := by omega
theorem size_4 (Y : Ys Prop) (r : Int) (h : rgB 5 4 r = true) (h1 : 2 ≤ r) (h2 : r ≤ 64) (K : V → Mem → Prop) (hK : ∀ mm, K (.int .i64 (r * 3)) mm) :
   body1 pA (callD pA tb0 la1 5) Y c13 [geo 5 4 r] ⟨0, .leaf⟩ K :=
  walk_of_vc (mono1) (.wait 4 (.fix s4 (vb true) (.wait 8 (.fix s11 (vi (r * 3)) .nil))))
  (show (vb (rgB 5 4 r) = vb true ∧ vi (wr IntKind.i64 (mulI r 3)) = vi (r * 3) ∧ vi (r * 3) = vi (r * 3)) from
  ⟨(cb h), (ci (wE_i64 (mulE rfl rfl) (size_4_o0 r h h1 h2) (size_4_o1 r h h1 h2))), (Eq.trans (ci (hmulE rfl rfl)) (by rfl))⟩)
  (by kernel_rfl) Y K hK


theorem row_n (Y : Ys Prop) (l m r s : Int) (h : rgB l m r = false) (g : ¬ rgP l m r) (K : V → Mem → Prop) (hK : ∀ mm, K (.bool (roB l m r s)) mm) :
   body1 pA (callD pA tb0 la2 5) Y c22 [geo l m r, .int .i64 s] ⟨0, .leaf⟩ K :=
  walk_of_vc (mono2) (.wait 4 (.fix s6 (vb false) .nil))
  (show (vb (rgB l m r) = vb false ∧ vb false = vb (roB l m r s)) from
  ⟨(cb h), (oF fun x => g x.1)⟩)
  (by kernel_rfl) Y K hK


theorem row_y (Y : Ys Prop) (l m r s : Int) (h : rgB l m r = true) (g : rgP l m r) (K : V → Mem → Prop) (hK : ∀ mm, K (.bool (roB l m r s)) mm) :
   body1 pA (callD pA tb0 la2 5) Y c22 [geo l m r, .int .i64 s] ⟨0, .leaf⟩ K :=
  walk_of_vc (mono2) (.wait 4 (.fix s6 (vb true) (.wait 5 (.split s11 (decide ¬s < 0) .nil .nil))))
  (show (vb (rgB l m r) = vb true ∧ vb (nB (ltI s 0)) = vb (decide ¬s < 0) ∧ ((decide ¬s < 0) = true → (vb (ltI s r) = vb (roB l m r s))) ∧ ((decide ¬s < 0) = false → (vb false = vb (roB l m r s)))) from
  ⟨(cb h), cb ((congrArg Bool.not (ltD rfl rfl)).trans (notD _)), (sT fun p0 => (Eq.trans (cb (ltD rfl rfl)) (oD ⟨fun x => ⟨g, by omega⟩, fun x => by have := x.2; omega⟩))), (sF fun p0 => (oF fun x => by have := x.2; omega))⟩)
  (by kernel_rfl) Y K hK


theorem par_n (Y : Ys Prop) (l m r s : Int) (h : roB l m r s = false) (z : pz l m r s = 0) (K : V → Mem → Prop) (hK : ∀ mm, K (.tuple [.int .i64 0, .bool false]) mm) :
   body1 pA (callD pA tb0 la3 5) Y c16 [geo l m r, .int .i64 s] ⟨0, .leaf⟩ K :=
  walk_of_vc (mono3) (.wait 6 (.fix s9 (vb false) .nil))
  (show (vb (roB l m r s) = vb false ∧ V.tuple [vi (Int.ofNat 0), vb false] = V.tuple [vi 0, vb false]) from
  ⟨(cb h), (by rfl)⟩)
  (by kernel_rfl) Y K hK


theorem par_2 (Y : Ys Prop) (r s : Int) (h : roB 1 2 r s = true) (h1 : 0 ≤ s) (h2 : s < 64) (K : V → Mem → Prop) (hK : ∀ mm, K (.tuple [.int .i64 (1), .bool true]) mm) :
   body1 pA (callD pA tb0 la3 5) Y c16 [geo 1 2 r, .int .i64 s] ⟨0, .leaf⟩ K :=
  walk_of_vc (mono3) (.wait 6 (.fix s9 (vb true) .nil))
  (show (vb (roB 1 2 r s) = vb true ∧ V.tuple [vi (Int.ofNat 1), vb true] = V.tuple [vi 1, vb true]) from
  ⟨(cb h), (by rfl)⟩)
  (by kernel_rfl) Y K hK

theorem par_3_o0 (s : Int) (h1 : (0 : Int) ≤ s) (h2 : s < (64 : Int)) : (0 : Int) ≤ s := by omega
theorem par_3_o1 (s : Int) (h1 : (0 : Int) ≤ s) (h2 : s < (64 : Int)) : (-9223372036854775808 : Int) ≤ s / (2 : Int) := by omega
theorem par_3_o2 (s : Int) (h1 : (0 : Int) ≤ s) (h2 : s < (64 : Int)) : s / (2 : Int) ≤ (9223372036854775807 : Int) := by omega
theorem par_3_o3 (s : Int) (h1 : (0 : Int) ≤ s) (h2 : s < (64 : Int)) : (0 : Int) ≤ s / (2 : Int) := by omega
theorem par_3_o4 (s : Int) (h1 : (0 : Int) ≤ s) (h2 : s < (64 : Int)) : (-9223372036854775808 : Int) ≤ (2 : Int) - s / (2 : Int) % (3 : Int) := by omega
theorem par_3_o5 (s : Int) (h1 : (0 : Int) ≤ s) (h2 : s < (64 : Int)) : (2 : Int) - s / (2 : Int) % (3 : Int) ≤ (9223372036854775807 : Int) := by omega
theorem par_3 (Y : Ys Prop) (r s : Int) (h : roB 5 3 r s = true) (h1 : 0 ≤ s) (h2 : s < 64) (K : V → Mem → Prop) (hK : ∀ mm, K (.tuple [.int .i64 (2 - s / 2 % 3), .bool true]) mm) :
   body1 pA (callD pA tb0 la3 5) Y c16 [geo 5 3 r, .int .i64 s] ⟨0, .leaf⟩ K :=
  walk_of_vc (mono3) (.wait 6 (.fix s9 (vb true) (.wait 15 (.fix s19 (vi (s / 2)) (.wait 1 (.fix s22 (vi (s / 2 % 3)) (.wait 1 (.fix s23 (vi (2 - s / 2 % 3)) .nil))))))))
  (show (vb (roB 5 3 r s) = vb true ∧ vi (wr IntKind.i64 (Int.tdiv s 2)) = vi (s / 2) ∧ vi (Int.tmod (s / 2) 3) = vi (s / 2 % 3) ∧ vi (wr IntKind.i64 (subI 2 (s / 2 % 3))) = vi (2 - s / 2 % 3) ∧ V.tuple [vi (2 - s / 2 % 3), vb true] = V.tuple [vi (2 - s / 2 % 3), vb true]) from
  ⟨(cb h), (ci (wE_i64 (tdivE rfl rfl (par_3_o0 s h1 h2)) (par_3_o1 s h1 h2) (par_3_o2 s h1 h2))), (ci (tmodE rfl rfl (par_3_o3 s h1 h2))), (ci (wE_i64 (subE rfl rfl) (par_3_o4 s h1 h2) (par_3_o5 s h1 h2))), (by rfl)⟩)
  (by kernel_rfl) Y K hK

theorem par_4_o0 (s : Int) (h1 : (0 : Int) ≤ s) (h2 : s < (64 : Int)) : (0 : Int) ≤ s := by omega
theorem par_4_o1 (s : Int) (h1 : (0 : Int) ≤ s) (h2 : s < (64 : Int)) : (-9223372036854775808 : Int) ≤ s / (2 : Int) := by omega
theorem par_4_o2 (s : Int) (h1 : (0 : Int) ≤ s) (h2 : s < (64 : Int)) : s / (2 : Int) ≤ (9223372036854775807 : Int) := by omega
theorem par_4_o3 (s : Int) (h1 : (0 : Int) ≤ s) (h2 : s < (64 : Int)) : (0 : Int) ≤ s / (2 : Int) := by omega
theorem par_4_o4 (s : Int) (h1 : (0 : Int) ≤ s) (h2 : s < (64 : Int)) : (-9223372036854775808 : Int) ≤ (3 : Int) - s / (2 : Int) % (4 : Int) := by omega
theorem par_4_o5 (s : Int) (h1 : (0 : Int) ≤ s) (h2 : s < (64 : Int)) : (3 : Int) - s / (2 : Int) % (4 : Int) ≤ (9223372036854775807 : Int) := by omega
theorem par_4 (Y : Ys Prop) (r s : Int) (h : roB 5 4 r s = true) (h1 : 0 ≤ s) (h2 : s < 64) (K : V → Mem → Prop) (hK : ∀ mm, K (.tuple [.int .i64 (3 - s / 2 % 4), .bool true]) mm) :
   body1 pA (callD pA tb0 la3 5) Y c16 [geo 5 4 r, .int .i64 s] ⟨0, .leaf⟩ K :=
  walk_of_vc (mono3) (.wait 6 (.fix s9 (vb true) (.wait 15 (.fix s19 (vi (s / 2)) (.wait 1 (.fix s22 (vi (s / 2 % 4)) (.wait 1 (.fix s23 (vi (3 - s / 2 % 4)) .nil))))))))
  (show (vb (roB 5 4 r s) = vb true ∧ vi (wr IntKind.i64 (Int.tdiv s 2)) = vi (s / 2) ∧ vi (Int.tmod (s / 2) 4) = vi (s / 2 % 4) ∧ vi (wr IntKind.i64 (subI 3 (s / 2 % 4))) = vi (3 - s / 2 % 4) ∧ V.tuple [vi (3 - s / 2 % 4), vb true] = V.tuple [vi (3 - s / 2 % 4), vb true]) from
  ⟨(cb h), (ci (wE_i64 (tdivE rfl rfl (par_4_o0 s h1 h2)) (par_4_o1 s h1 h2) (par_4_o2 s h1 h2))), (ci (tmodE rfl rfl (par_4_o3 s h1 h2))), (ci (wE_i64 (subE rfl rfl) (par_4_o4 s h1 h2) (par_4_o5 s h1 h2))), (by rfl)⟩)
  (by kernel_rfl) Y K hK

theorem at_lo_o0 (s : Int) (h : s < (0 : Int)) : s < (0 : Int) := by omega
theorem at_lo (Y : Ys Prop) (l m r s : Int) (h : s < 0) (K : V → Mem → Prop) (hK : ∀ mm, K (.tuple [.int .i64 0, .int .i64 0, .bool false]) mm) :
   body1 pA (callD pA tbA la4 5) Y c12 [geo l m r, .int .i64 s] ⟨0, .leaf⟩ K :=
  walk_of_vc (mono4) (.wait 6 (.fix s12 (vb true) .nil))
  (show (vb (ltI s 0) = vb true ∧ V.tuple [vi (Int.ofNat 0), vi (Int.ofNat 0), vb false] = V.tuple [vi 0, vi 0, vb false]) from
  ⟨(cb (ltT rfl rfl (at_lo_o0 s h))), (by rfl)⟩)
  (by kernel_rfl) Y K hK

theorem at_hi_o0 (s : Int) (h : (0 : Int) ≤ s) : ¬s < (0 : Int) := by omega
theorem at_hi_o1 (l : Int) (m : Int) (r : Int) (s : Int) (h : (0 : Int) ≤ s) (h2 : sz l m r ≤ s) : ¬s < sz l m r := by omega
theorem at_hi (Y : Ys Prop) (l m r s : Int) (h : 0 ≤ s) (h2 : sz l m r ≤ s) (K : V → Mem → Prop) (hK : ∀ mm, K (.tuple [.int .i64 0, .int .i64 0, .bool false]) mm) :
   body1 pA (callD pA tbA la4 5) Y c12 [geo l m r, .int .i64 s] ⟨0, .leaf⟩ K :=
  walk_of_vc (mono4) (.wait 6 (.fix s12 (vb false) (.wait 5 (.fix s17 (vb true) .nil))))
  (show (vb (ltI s 0) = vb false ∧ vb (nB (ltI s (sz l m r))) = vb true ∧ V.tuple [vi (Int.ofNat 0), vi (Int.ofNat 0), vb false] = V.tuple [vi 0, vi 0, vb false]) from
  ⟨(cb (ltF rfl rfl (at_hi_o0 s h))), (cb (congrArg Bool.not (ltF rfl rfl (at_hi_o1 l m r s h h2)))), (by rfl)⟩)
  (by kernel_rfl) Y K hK

theorem at_2_0_o0 (s : Int) (h : (0 : Int) ≤ s) (h3 : s < (192 : Int)) (hd : s / (2 : Int) % (1 : Int) = (0 : Int)) : ¬s < (0 : Int) := by omega
theorem at_2_0_o1 (r : Int) (s : Int) (r2 : r ≤ (64 : Int)) (h : (0 : Int) ≤ s) (h2 : s < sz (1 : Int) (2 : Int) r) (h3 : s < (192 : Int)) (hd : s / (2 : Int) % (1 : Int) = (0 : Int)) (ho : roB (1 : Int) (2 : Int) r (s / (2 : Int) / (1 : Int) * (2 : Int) + s % (2 : Int)) = true) : s < sz (1 : Int) (2 : Int) r := by omega
theorem at_2_0_o2 (s : Int) (h : (0 : Int) ≤ s) (h3 : s < (192 : Int)) (hd : s / (2 : Int) % (1 : Int) = (0 : Int)) : (0 : Int) ≤ s := by omega
theorem at_2_0_o3 (s : Int) (h : (0 : Int) ≤ s) (h3 : s < (192 : Int)) (hd : s / (2 : Int) % (1 : Int) = (0 : Int)) : (-9223372036854775808 : Int) ≤ s / (2 : Int) := by omega
theorem at_2_0_o4 (s : Int) (h : (0 : Int) ≤ s) (h3 : s < (192 : Int)) (hd : s / (2 : Int) % (1 : Int) = (0 : Int)) : s / (2 : Int) ≤ (9223372036854775807 : Int) := by omega
theorem at_2_0_o5 (s : Int) (h : (0 : Int) ≤ s) (h3 : s < (192 : Int)) (hd : s / (2 : Int) % (1 : Int) = (0 : Int)) : (0 : Int) ≤ s / (2 : Int) := by omega
theorem at_2_0_o6 (s : Int) (h : (0 : Int) ≤ s) (h3 : s < (192 : Int)) (hd : s / (2 : Int) % (1 : Int) = (0 : Int)) : (-9223372036854775808 : Int) ≤ s / (2 : Int) / (1 : Int) := by omega
theorem at_2_0_o7 (s : Int) (h : (0 : Int) ≤ s) (h3 : s < (192 : Int)) (hd : s / (2 : Int) % (1 : Int) = (0 : Int)) : s / (2 : Int) / (1 : Int) ≤ (9223372036854775807 : Int) := by omega
theorem at_2_0_o8 (s : Int) (h : (0 : Int) ≤ s) (h3 : s < (192 : Int)) (hd : s / (2 : Int) % (1 : Int) = (0 : Int)) : (-9223372036854775808 : Int) ≤ s / (2 : Int) / (1 : Int) * (2 : Int) := by omega
theorem at_2_0_o9 (s : Int) (h : (0 : Int) ≤ s) (h3 : s < (192 : Int)) (hd : s / (2 : Int) % (1 : Int) = (0 : Int)) : s / (2 : Int) / (1 : Int) * (2 : Int) ≤ (9223372036854775807 : Int) := by omega
theorem at_2_0_o10 (s : Int) (h : (0 : Int) ≤ s) (h3 : s < (192 : Int)) (hd : s / (2 : Int) % (1 : Int) = (0 : Int)) : (-9223372036854775808 : Int) ≤ s / (2 : Int) / (1 : Int) * (2 : Int) + s % (2 : Int) := by omega
theorem at_2_0_o11 (s : Int) (h : (0 : Int) ≤ s) (h3 : s < (192 : Int)) (hd : s / (2 : Int) % (1 : Int) = (0 : Int)) : s / (2 : Int) / (1 : Int) * (2 : Int) + s % (2 : Int) ≤ (9223372036854775807 : Int) := by omega
theorem at_2_0_o12 (p : Int) (p0 : (0 : Int) ≤ p) (p1 : p < (2 : Int)) : (-9223372036854775808 : Int) ≤ p + (1 : Int) := by omega
theorem at_2_0_o13 (p : Int) (p0 : (0 : Int) ≤ p) (p1 : p < (2 : Int)) : p + (1 : Int) ≤ (9223372036854775807 : Int) := by omega
theorem at_2_0_o14 (p : Int) (p0 : (0 : Int) ≤ p) (p1 : p < (2 : Int)) : (-9223372036854775808 : Int) ≤ p + (1 : Int) + (0 : Int) := by omega
theorem at_2_0_o15 (p : Int) (p0 : (0 : Int) ≤ p) (p1 : p < (2 : Int)) : p + (1 : Int) + (0 : Int) ≤ (9223372036854775807 : Int) := by omega
theorem at_2_0_o16 (p : Int) (p0 : (0 : Int) ≤ p) (p1 : p < (2 : Int)) : (0 : Int) ≤ p + (1 : Int) + (0 : Int) := by omega
theorem at_2_0 (Y : Ys Prop) (r s p : Int) (r2 : r ≤ 64) (h : 0 ≤ s) (h2 : s < sz 1 2 r) (h3 : s < 192) (hd : s / 2 % 1 = 0) (hp : pz 1 2 r (s / 2 / 1 * 2 + s % 2) = p) (ho : roB 1 2 r (s / 2 / 1 * 2 + s % 2) = true) (p0 : 0 ≤ p) (p1 : p < 2) (K : V → Mem → Prop) (hK : ∀ mm, K (.tuple [.int .i64 (s / 2 / 1 * 2 + s % 2), .int .i64 ((p + 1 + 0) % 2), .bool true]) mm) :
   body1 pA (callD pA tbA la4 5) Y c12 [geo 1 2 r, .int .i64 s] ⟨0, .leaf⟩ K :=
  walk_of_vc (mono4) (.wait 6 (.fix s12 (vb false) (.wait 5 (.fix s17 (vb false) (.wait 6 (.fix s20 (vi (s / 2)) (.wait 1 (.fix s22 (vi (s % 2)) (.wait 11 (.fix s27 (vi (s / 2 / 1)) (.wait 1 (.fix s32 (vi 0) (.wait 4 (.fix s34 (vi (s / 2 / 1 * 2)) (.wait 1 (.fix s36 (vi (s / 2 / 1 * 2 + s % 2)) (.wait 11 (.fix s12 (V.tuple [vi p, vb true]) (.wait 22 (.fix s25 (vi (p + 1)) (.wait 3 (.fix s27 (vi (p + 1 + 0)) (.wait 1 (.fix s30 (vi ((p + 1 + 0) % 2)) .nil))))))))))))))))))))))))
  (show (vb (ltI s 0) = vb false ∧ vb (nB (ltI s (sz 1 2 r))) = vb false ∧ vi (wr IntKind.i64 (Int.tdiv s 2)) = vi (s / 2) ∧ vi (Int.tmod s 2) = vi (s % 2) ∧ vi (wr IntKind.i64 (Int.tdiv (s / 2) 1)) = vi (s / 2 / 1) ∧ vi (Int.tmod (s / 2) 1) = vi 0 ∧ vi (wr IntKind.i64 (mulI (s / 2 / 1) 2)) = vi (s / 2 / 1 * 2) ∧ vi (wr IntKind.i64 (addI (s / 2 / 1 * 2) (s % 2))) = vi (s / 2 / 1 * 2 + s % 2) ∧ V.tuple [vi (pz 1 2 r (s / 2 / 1 * 2 + s % 2)), vb (roB 1 2 r (s / 2 / 1 * 2 + s % 2))] = V.tuple [vi p, vb true] ∧ vi (wr IntKind.i64 (addI p 1)) = vi (p + 1) ∧ vi (wr IntKind.i64 (addI (p + 1) 0)) = vi (p + 1 + 0) ∧ vi (Int.tmod (p + 1 + 0) 2) = vi ((p + 1 + 0) % 2) ∧ True ∧ V.tuple [vi (s / 2 / 1 * 2 + s % 2), vi ((p + 1 + 0) % 2), vb true] = V.tuple [vi (s / 2 / 1 * 2 + s % 2), vi ((p + 1 + 0) % 2), vb true]) from
  ⟨(cb (ltF rfl rfl (at_2_0_o0 s h h3 hd))), (cb (congrArg Bool.not (ltT rfl rfl (at_2_0_o1 r s r2 h h2 h3 hd ho)))), (ci (wE_i64 (tdivE rfl rfl (at_2_0_o2 s h h3 hd)) (at_2_0_o3 s h h3 hd) (at_2_0_o4 s h h3 hd))), (ci (tmodE rfl rfl (at_2_0_o2 s h h3 hd))), (ci (wE_i64 (tdivE rfl rfl (at_2_0_o5 s h h3 hd)) (at_2_0_o6 s h h3 hd) (at_2_0_o7 s h h3 hd))), (ci ((tmodE rfl rfl (at_2_0_o5 s h h3 hd)).trans hd)), (ci (wE_i64 (mulE rfl rfl) (at_2_0_o8 s h h3 hd) (at_2_0_o9 s h h3 hd))), (ci (wE_i64 (addE (hmulE rfl rfl) rfl) (at_2_0_o10 s h h3 hd) (at_2_0_o11 s h h3 hd))), (congrArg V.tuple (consE (ci hp) (consE (cb ho) rfl))), (ci (wE_i64 (addE rfl rfl) (at_2_0_o12 p p0 p1) (at_2_0_o13 p p0 p1))), (ci (wE_i64 (addE rfl rfl) (at_2_0_o14 p p0 p1) (at_2_0_o15 p p0 p1))), (ci (tmodE rfl rfl (at_2_0_o16 p p0 p1))), trivial, (by first | rfl | rw [show (p + 1 + 0 : Int) = p + 1 by omega])⟩)
  (by kernel_rfl) Y K hK

theorem at_3_0_o0 (s : Int) (h : (0 : Int) ≤ s) (h3 : s < (192 : Int)) (hd : s / (2 : Int) % (2 : Int) = (0 : Int)) : ¬s < (0 : Int) := by omega
theorem at_3_0_o1 (r : Int) (s : Int) (r2 : r ≤ (64 : Int)) (h : (0 : Int) ≤ s) (h2 : s < sz (5 : Int) (3 : Int) r) (h3 : s < (192 : Int)) (hd : s / (2 : Int) % (2 : Int) = (0 : Int)) (ho : roB (5 : Int) (3 : Int) r (s / (2 : Int) / (2 : Int) * (2 : Int) + s % (2 : Int)) = true) : s < sz (5 : Int) (3 : Int) r := by omega
theorem at_3_0_o2 (s : Int) (h : (0 : Int) ≤ s) (h3 : s < (192 : Int)) (hd : s / (2 : Int) % (2 : Int) = (0 : Int)) : (0 : Int) ≤ s := by omega
theorem at_3_0_o3 (s : Int) (h : (0 : Int) ≤ s) (h3 : s < (192 : Int)) (hd : s / (2 : Int) % (2 : Int) = (0 : Int)) : (-9223372036854775808 : Int) ≤ s / (2 : Int) := by omega
theorem at_3_0_o4 (s : Int) (h : (0 : Int) ≤ s) (h3 : s < (192 : Int)) (hd : s / (2 : Int) % (2 : Int) = (0 : Int)) : s / (2 : Int) ≤ (9223372036854775807 : Int) := by omega
theorem at_3_0_o5 (s : Int) (h : (0 : Int) ≤ s) (h3 : s < (192 : Int)) (hd : s / (2 : Int) % (2 : Int) = (0 : Int)) : (0 : Int) ≤ s / (2 : Int) := by omega
theorem at_3_0_o6 (s : Int) (h : (0 : Int) ≤ s) (h3 : s < (192 : Int)) (hd : s / (2 : Int) % (2 : Int) = (0 : Int)) : (-9223372036854775808 : Int) ≤ s / (2 : Int) / (2 : Int) := by omega
theorem at_3_0_o7 (s : Int) (h : (0 : Int) ≤ s) (h3 : s < (192 : Int)) (hd : s / (2 : Int) % (2 : Int) = (0 : Int)) : s / (2 : Int) / (2 : Int) ≤ (9223372036854775807 : Int) := by omega
theorem at_3_0_o8 (s : Int) (h : (0 : Int) ≤ s) (h3 : s < (192 : Int)) (hd : s / (2 : Int) % (2 : Int) = (0 : Int)) : (-9223372036854775808 : Int) ≤ s / (2 : Int) / (2 : Int) * (2 : Int) := by omega
theorem at_3_0_o9 (s : Int) (h : (0 : Int) ≤ s) (h3 : s < (192 : Int)) (hd : s / (2 : Int) % (2 : Int) = (0 : Int)) : s / (2 : Int) / (2 : Int) * (2 : Int) ≤ (9223372036854775807 : Int) := by omega
theorem at_3_0_o10 (s : Int) (h : (0 : Int) ≤ s) (h3 : s < (192 : Int)) (hd : s / (2 : Int) % (2 : Int) = (0 : Int)) : (-9223372036854775808 : Int) ≤ s / (2 : Int) / (2 : Int) * (2 : Int) + s % (2 : Int) := by omega
theorem at_3_0_o11 (s : Int) (h : (0 : Int) ≤ s) (h3 : s < (192 : Int)) (hd : s / (2 : Int) % (2 : Int) = (0 : Int)) : s / (2 : Int) / (2 : Int) * (2 : Int) + s % (2 : Int) ≤ (9223372036854775807 : Int) := by omega
theorem at_3_0_o12 (p : Int) (p0 : (0 : Int) ≤ p) (p1 : p < (3 : Int)) : (-9223372036854775808 : Int) ≤ p + (1 : Int) := by omega
theorem at_3_0_o13 (p : Int) (p0 : (0 : Int) ≤ p) (p1 : p < (3 : Int)) : p + (1 : Int) ≤ (9223372036854775807 : Int) := by omega
theorem at_3_0_o14 (p : Int) (p0 : (0 : Int) ≤ p) (p1 : p < (3 : Int)) : (-9223372036854775808 : Int) ≤ p + (1 : Int) + (0 : Int) := by omega
theorem at_3_0_o15 (p : Int) (p0 : (0 : Int) ≤ p) (p1 : p < (3 : Int)) : p + (1 : Int) + (0 : Int) ≤ (9223372036854775807 : Int) := by omega
theorem at_3_0_o16 (p : Int) (p0 : (0 : Int) ≤ p) (p1 : p < (3 : Int)) : (0 : Int) ≤ p + (1 : Int) + (0 : Int) := by omega
theorem at_3_0_o17 (p : Int) (p0 : (0 : Int) ≤ p) (p1 : p < (3 : Int)) : (-9223372036854775808 : Int) ≤ p + (2 : Int) := by omega
theorem at_3_0_o18 (p : Int) (p0 : (0 : Int) ≤ p) (p1 : p < (3 : Int)) : p + (2 : Int) ≤ (9223372036854775807 : Int) := by omega
theorem at_3_0_o19 (p : Int) (p0 : (0 : Int) ≤ p) (p1 : p < (3 : Int)) : (0 : Int) ≤ p + (2 : Int) := by omega
theorem at_3_0 (Y : Ys Prop) (r s p : Int) (r2 : r ≤ 64) (h : 0 ≤ s) (h2 : s < sz 5 3 r) (h3 : s < 192) (hd : s / 2 % 2 = 0) (hp : pz 5 3 r (s / 2 / 2 * 2 + s % 2) = p) (ho : roB 5 3 r (s / 2 / 2 * 2 + s % 2) = true) (p0 : 0 ≤ p) (p1 : p < 3) (K : V → Mem → Prop) (hK : ∀ mm, K (.tuple [.int .i64 (s / 2 / 2 * 2 + s % 2), .int .i64 ((p + 1 + 0) % 3), .bool true]) mm) :
   body1 pA (callD pA tbA la4 5) Y c12 [geo 5 3 r, .int .i64 s] ⟨0, .leaf⟩ K :=
  walk_of_vc (mono4) (.wait 6 (.fix s12 (vb false) (.wait 5 (.fix s17 (vb false) (.wait 6 (.fix s20 (vi (s / 2)) (.wait 1 (.fix s22 (vi (s % 2)) (.wait 11 (.fix s27 (vi (s / 2 / 2)) (.wait 1 (.fix s32 (vi 0) (.wait 4 (.fix s34 (vi (s / 2 / 2 * 2)) (.wait 1 (.fix s36 (vi (s / 2 / 2 * 2 + s % 2)) (.wait 11 (.fix s12 (V.tuple [vi p, vb true]) (.wait 22 (.fix s25 (vi (p + 1)) (.wait 3 (.fix s27 (vi (p + 1 + 0)) (.wait 1 (.fix s30 (vi ((p + 1 + 0) % 3)) (.wait 13 (.fix s25 (vi (p + 1)) (.wait 3 (.fix s27 (vi (p + 2)) (.wait 1 (.fix s30 (vi ((p + 2) % 3)) .nil))))))))))))))))))))))))))))))
  (show (vb (ltI s 0) = vb false ∧ vb (nB (ltI s (sz 5 3 r))) = vb false ∧ vi (wr IntKind.i64 (Int.tdiv s 2)) = vi (s / 2) ∧ vi (Int.tmod s 2) = vi (s % 2) ∧ vi (wr IntKind.i64 (Int.tdiv (s / 2) 2)) = vi (s / 2 / 2) ∧ vi (Int.tmod (s / 2) 2) = vi 0 ∧ vi (wr IntKind.i64 (mulI (s / 2 / 2) 2)) = vi (s / 2 / 2 * 2) ∧ vi (wr IntKind.i64 (addI (s / 2 / 2 * 2) (s % 2))) = vi (s / 2 / 2 * 2 + s % 2) ∧ V.tuple [vi (pz 5 3 r (s / 2 / 2 * 2 + s % 2)), vb (roB 5 3 r (s / 2 / 2 * 2 + s % 2))] = V.tuple [vi p, vb true] ∧ vi (wr IntKind.i64 (addI p 1)) = vi (p + 1) ∧ vi (wr IntKind.i64 (addI (p + 1) 0)) = vi (p + 1 + 0) ∧ vi (Int.tmod (p + 1 + 0) 3) = vi ((p + 1 + 0) % 3) ∧ vi (wr IntKind.i64 (addI p 1)) = vi (p + 1) ∧ vi (wr IntKind.i64 (addI (p + 1) 1)) = vi (p + 2) ∧ vi (Int.tmod (p + 2) 3) = vi ((p + 2) % 3) ∧ True ∧ V.tuple [vi (s / 2 / 2 * 2 + s % 2), vi ((p + 1 + 0) % 3), vb true] = V.tuple [vi (s / 2 / 2 * 2 + s % 2), vi ((p + 1 + 0) % 3), vb true]) from
  ⟨(cb (ltF rfl rfl (at_3_0_o0 s h h3 hd))), (cb (congrArg Bool.not (ltT rfl rfl (at_3_0_o1 r s r2 h h2 h3 hd ho)))), (ci (wE_i64 (tdivE rfl rfl (at_3_0_o2 s h h3 hd)) (at_3_0_o3 s h h3 hd) (at_3_0_o4 s h h3 hd))), (ci (tmodE rfl rfl (at_3_0_o2 s h h3 hd))), (ci (wE_i64 (tdivE rfl rfl (at_3_0_o5 s h h3 hd)) (at_3_0_o6 s h h3 hd) (at_3_0_o7 s h h3 hd))), (ci ((tmodE rfl rfl (at_3_0_o5 s h h3 hd)).trans hd)), (ci (wE_i64 (mulE rfl rfl) (at_3_0_o8 s h h3 hd) (at_3_0_o9 s h h3 hd))), (ci (wE_i64 (addE (hmulE rfl rfl) rfl) (at_3_0_o10 s h h3 hd) (at_3_0_o11 s h h3 hd))), (congrArg V.tuple (consE (ci hp) (consE (cb ho) rfl))), (ci (wE_i64 (addE rfl rfl) (at_3_0_o12 p p0 p1) (at_3_0_o13 p p0 p1))), (ci (wE_i64 (addE rfl rfl) (at_3_0_o14 p p0 p1) (at_3_0_o15 p p0 p1))), (ci (tmodE rfl rfl (at_3_0_o16 p p0 p1))), (ci (wE_i64 (addE rfl rfl) (at_3_0_o12 p p0 p1) (at_3_0_o13 p p0 p1))), (ci (wE_i64 ((addE rfl rfl).trans (Int.add_assoc _ _ _)) (at_3_0_o17 p p0 p1) (at_3_0_o18 p p0 p1))), (ci (tmodE rfl rfl (at_3_0_o19 p p0 p1))), trivial, (by first | rfl | rw [show (p + 1 + 0 : Int) = p + 1 by omega])⟩)
  (by kernel_rfl) Y K hK

theorem at_3_1_o0 (s : Int) (h : (0 : Int) ≤ s) (h3 : s < (192 : Int)) (hd : s / (2 : Int) % (2 : Int) = (1 : Int)) : ¬s < (0 : Int) := by omega
theorem at_3_1_o1 (r : Int) (s : Int) (r2 : r ≤ (64 : Int)) (h : (0 : Int) ≤ s) (h2 : s < sz (5 : Int) (3 : Int) r) (h3 : s < (192 : Int)) (hd : s / (2 : Int) % (2 : Int) = (1 : Int)) (ho : roB (5 : Int) (3 : Int) r (s / (2 : Int) / (2 : Int) * (2 : Int) + s % (2 : Int)) = true) : s < sz (5 : Int) (3 : Int) r := by omega
theorem at_3_1_o2 (s : Int) (h : (0 : Int) ≤ s) (h3 : s < (192 : Int)) (hd : s / (2 : Int) % (2 : Int) = (1 : Int)) : (0 : Int) ≤ s := by omega
theorem at_3_1_o3 (s : Int) (h : (0 : Int) ≤ s) (h3 : s < (192 : Int)) (hd : s / (2 : Int) % (2 : Int) = (1 : Int)) : (-9223372036854775808 : Int) ≤ s / (2 : Int) := by omega
theorem at_3_1_o4 (s : Int) (h : (0 : Int) ≤ s) (h3 : s < (192 : Int)) (hd : s / (2 : Int) % (2 : Int) = (1 : Int)) : s / (2 : Int) ≤ (9223372036854775807 : Int) := by omega
theorem at_3_1_o5 (s : Int) (h : (0 : Int) ≤ s) (h3 : s < (192 : Int)) (hd : s / (2 : Int) % (2 : Int) = (1 : Int)) : (0 : Int) ≤ s / (2 : Int) := by omega
theorem at_3_1_o6 (s : Int) (h : (0 : Int) ≤ s) (h3 : s < (192 : Int)) (hd : s / (2 : Int) % (2 : Int) = (1 : Int)) : (-9223372036854775808 : Int) ≤ s / (2 : Int) / (2 : Int) := by omega
theorem at_3_1_o7 (s : Int) (h : (0 : Int) ≤ s) (h3 : s < (192 : Int)) (hd : s / (2 : Int) % (2 : Int) = (1 : Int)) : s / (2 : Int) / (2 : Int) ≤ (9223372036854775807 : Int) := by omega
theorem at_3_1_o8 (s : Int) (h : (0 : Int) ≤ s) (h3 : s < (192 : Int)) (hd : s / (2 : Int) % (2 : Int) = (1 : Int)) : (-9223372036854775808 : Int) ≤ s / (2 : Int) / (2 : Int) * (2 : Int) := by omega
theorem at_3_1_o9 (s : Int) (h : (0 : Int) ≤ s) (h3 : s < (192 : Int)) (hd : s / (2 : Int) % (2 : Int) = (1 : Int)) : s / (2 : Int) / (2 : Int) * (2 : Int) ≤ (9223372036854775807 : Int) := by omega
theorem at_3_1_o10 (s : Int) (h : (0 : Int) ≤ s) (h3 : s < (192 : Int)) (hd : s / (2 : Int) % (2 : Int) = (1 : Int)) : (-9223372036854775808 : Int) ≤ s / (2 : Int) / (2 : Int) * (2 : Int) + s % (2 : Int) := by omega
theorem at_3_1_o11 (s : Int) (h : (0 : Int) ≤ s) (h3 : s < (192 : Int)) (hd : s / (2 : Int) % (2 : Int) = (1 : Int)) : s / (2 : Int) / (2 : Int) * (2 : Int) + s % (2 : Int) ≤ (9223372036854775807 : Int) := by omega
theorem at_3_1_o12 (p : Int) (p0 : (0 : Int) ≤ p) (p1 : p < (3 : Int)) : (-9223372036854775808 : Int) ≤ p + (1 : Int) := by omega
theorem at_3_1_o13 (p : Int) (p0 : (0 : Int) ≤ p) (p1 : p < (3 : Int)) : p + (1 : Int) ≤ (9223372036854775807 : Int) := by omega
theorem at_3_1_o14 (p : Int) (p0 : (0 : Int) ≤ p) (p1 : p < (3 : Int)) : (-9223372036854775808 : Int) ≤ p + (1 : Int) + (0 : Int) := by omega
theorem at_3_1_o15 (p : Int) (p0 : (0 : Int) ≤ p) (p1 : p < (3 : Int)) : p + (1 : Int) + (0 : Int) ≤ (9223372036854775807 : Int) := by omega
theorem at_3_1_o16 (p : Int) (p0 : (0 : Int) ≤ p) (p1 : p < (3 : Int)) : (0 : Int) ≤ p + (1 : Int) + (0 : Int) := by omega
theorem at_3_1_o17 (p : Int) (p0 : (0 : Int) ≤ p) (p1 : p < (3 : Int)) : (-9223372036854775808 : Int) ≤ p + (2 : Int) := by omega
theorem at_3_1_o18 (p : Int) (p0 : (0 : Int) ≤ p) (p1 : p < (3 : Int)) : p + (2 : Int) ≤ (9223372036854775807 : Int) := by omega
theorem at_3_1_o19 (p : Int) (p0 : (0 : Int) ≤ p) (p1 : p < (3 : Int)) : (0 : Int) ≤ p + (2 : Int) := by omega
theorem at_3_1 (Y : Ys Prop) (r s p : Int) (r2 : r ≤ 64) (h : 0 ≤ s) (h2 : s < sz 5 3 r) (h3 : s < 192) (hd : s / 2 % 2 = 1) (hp : pz 5 3 r (s / 2 / 2 * 2 + s % 2) = p) (ho : roB 5 3 r (s / 2 / 2 * 2 + s % 2) = true) (p0 : 0 ≤ p) (p1 : p < 3) (K : V → Mem → Prop) (hK : ∀ mm, K (.tuple [.int .i64 (s / 2 / 2 * 2 + s % 2), .int .i64 ((p + 1 + 1) % 3), .bool true]) mm) :
   body1 pA (callD pA tbA la4 5) Y c12 [geo 5 3 r, .int .i64 s] ⟨0, .leaf⟩ K :=
  walk_of_vc (mono4) (.wait 6 (.fix s12 (vb false) (.wait 5 (.fix s17 (vb false) (.wait 6 (.fix s20 (vi (s / 2)) (.wait 1 (.fix s22 (vi (s % 2)) (.wait 11 (.fix s27 (vi (s / 2 / 2)) (.wait 1 (.fix s32 (vi 1) (.wait 4 (.fix s34 (vi (s / 2 / 2 * 2)) (.wait 1 (.fix s36 (vi (s / 2 / 2 * 2 + s % 2)) (.wait 11 (.fix s12 (V.tuple [vi p, vb true]) (.wait 22 (.fix s25 (vi (p + 1)) (.wait 3 (.fix s27 (vi (p + 1 + 0)) (.wait 1 (.fix s30 (vi ((p + 1 + 0) % 3)) (.wait 13 (.fix s25 (vi (p + 1)) (.wait 3 (.fix s27 (vi (p + 2)) (.wait 1 (.fix s30 (vi ((p + 2) % 3)) .nil))))))))))))))))))))))))))))))
  (show (vb (ltI s 0) = vb false ∧ vb (nB (ltI s (sz 5 3 r))) = vb false ∧ vi (wr IntKind.i64 (Int.tdiv s 2)) = vi (s / 2) ∧ vi (Int.tmod s 2) = vi (s % 2) ∧ vi (wr IntKind.i64 (Int.tdiv (s / 2) 2)) = vi (s / 2 / 2) ∧ vi (Int.tmod (s / 2) 2) = vi 1 ∧ vi (wr IntKind.i64 (mulI (s / 2 / 2) 2)) = vi (s / 2 / 2 * 2) ∧ vi (wr IntKind.i64 (addI (s / 2 / 2 * 2) (s % 2))) = vi (s / 2 / 2 * 2 + s % 2) ∧ V.tuple [vi (pz 5 3 r (s / 2 / 2 * 2 + s % 2)), vb (roB 5 3 r (s / 2 / 2 * 2 + s % 2))] = V.tuple [vi p, vb true] ∧ vi (wr IntKind.i64 (addI p 1)) = vi (p + 1) ∧ vi (wr IntKind.i64 (addI (p + 1) 0)) = vi (p + 1 + 0) ∧ vi (Int.tmod (p + 1 + 0) 3) = vi ((p + 1 + 0) % 3) ∧ vi (wr IntKind.i64 (addI p 1)) = vi (p + 1) ∧ vi (wr IntKind.i64 (addI (p + 1) 1)) = vi (p + 2) ∧ vi (Int.tmod (p + 2) 3) = vi ((p + 2) % 3) ∧ True ∧ V.tuple [vi (s / 2 / 2 * 2 + s % 2), vi ((p + 2) % 3), vb true] = V.tuple [vi (s / 2 / 2 * 2 + s % 2), vi ((p + 1 + 1) % 3), vb true]) from
  ⟨(cb (ltF rfl rfl (at_3_1_o0 s h h3 hd))), (cb (congrArg Bool.not (ltT rfl rfl (at_3_1_o1 r s r2 h h2 h3 hd ho)))), (ci (wE_i64 (tdivE rfl rfl (at_3_1_o2 s h h3 hd)) (at_3_1_o3 s h h3 hd) (at_3_1_o4 s h h3 hd))), (ci (tmodE rfl rfl (at_3_1_o2 s h h3 hd))), (ci (wE_i64 (tdivE rfl rfl (at_3_1_o5 s h h3 hd)) (at_3_1_o6 s h h3 hd) (at_3_1_o7 s h h3 hd))), (ci ((tmodE rfl rfl (at_3_1_o5 s h h3 hd)).trans hd)), (ci (wE_i64 (mulE rfl rfl) (at_3_1_o8 s h h3 hd) (at_3_1_o9 s h h3 hd))), (ci (wE_i64 (addE (hmulE rfl rfl) rfl) (at_3_1_o10 s h h3 hd) (at_3_1_o11 s h h3 hd))), (congrArg V.tuple (consE (ci hp) (consE (cb ho) rfl))), (ci (wE_i64 (addE rfl rfl) (at_3_1_o12 p p0 p1) (at_3_1_o13 p p0 p1))), (ci (wE_i64 (addE rfl rfl) (at_3_1_o14 p p0 p1) (at_3_1_o15 p p0 p1))), (ci (tmodE rfl rfl (at_3_1_o16 p p0 p1))), (ci (wE_i64 (addE rfl rfl) (at_3_1_o12 p p0 p1) (at_3_1_o13 p p0 p1))), (ci (wE_i64 ((addE rfl rfl).trans (Int.add_assoc _ _ _)) (at_3_1_o17 p p0 p1) (at_3_1_o18 p p0 p1))), (ci (tmodE rfl rfl (at_3_1_o19 p p0 p1))), trivial, (by first | rfl | rw [show (p + 1 + 1 : Int) = p + 2 by omega])⟩)
  (by kernel_rfl) Y K hK

theorem at_4_0_o0 (s : Int) (h : (0 : Int) ≤ s) (h3 : s < (192 : Int)) (hd : s / (2 : Int) % (3 : Int) = (0 : Int)) : ¬s < (0 : Int) := by omega
theorem at_4_0_o1 (r : Int) (s : Int) (r2 : r ≤ (64 : Int)) (h : (0 : Int) ≤ s) (h2 : s < sz (5 : Int) (4 : Int) r) (h3 : s < (192 : Int)) (hd : s / (2 : Int) % (3 : Int) = (0 : Int)) (ho : roB (5 : Int) (4 : Int) r (s / (2 : Int) / (3 : Int) * (2 : Int) + s % (2 : Int)) = true) : s < sz (5 : Int) (4 : Int) r := by omega
theorem at_4_0_o2 (s : Int) (h : (0 : Int) ≤ s) (h3 : s < (192 : Int)) (hd : s / (2 : Int) % (3 : Int) = (0 : Int)) : (0 : Int) ≤ s := by omega
theorem at_4_0_o3 (s : Int) (h : (0 : Int) ≤ s) (h3 : s < (192 : Int)) (hd : s / (2 : Int) % (3 : Int) = (0 : Int)) : (-9223372036854775808 : Int) ≤ s / (2 : Int) := by omega
theorem at_4_0_o4 (s : Int) (h : (0 : Int) ≤ s) (h3 : s < (192 : Int)) (hd : s / (2 : Int) % (3 : Int) = (0 : Int)) : s / (2 : Int) ≤ (9223372036854775807 : Int) := by omega
theorem at_4_0_o5 (s : Int) (h : (0 : Int) ≤ s) (h3 : s < (192 : Int)) (hd : s / (2 : Int) % (3 : Int) = (0 : Int)) : (0 : Int) ≤ s / (2 : Int) := by omega
theorem at_4_0_o6 (s : Int) (h : (0 : Int) ≤ s) (h3 : s < (192 : Int)) (hd : s / (2 : Int) % (3 : Int) = (0 : Int)) : (-9223372036854775808 : Int) ≤ s / (2 : Int) / (3 : Int) := by omega
theorem at_4_0_o7 (s : Int) (h : (0 : Int) ≤ s) (h3 : s < (192 : Int)) (hd : s / (2 : Int) % (3 : Int) = (0 : Int)) : s / (2 : Int) / (3 : Int) ≤ (9223372036854775807 : Int) := by omega
theorem at_4_0_o8 (s : Int) (h : (0 : Int) ≤ s) (h3 : s < (192 : Int)) (hd : s / (2 : Int) % (3 : Int) = (0 : Int)) : (-9223372036854775808 : Int) ≤ s / (2 : Int) / (3 : Int) * (2 : Int) := by omega
theorem at_4_0_o9 (s : Int) (h : (0 : Int) ≤ s) (h3 : s < (192 : Int)) (hd : s / (2 : Int) % (3 : Int) = (0 : Int)) : s / (2 : Int) / (3 : Int) * (2 : Int) ≤ (9223372036854775807 : Int) := by omega
theorem at_4_0_o10 (s : Int) (h : (0 : Int) ≤ s) (h3 : s < (192 : Int)) (hd : s / (2 : Int) % (3 : Int) = (0 : Int)) : (-9223372036854775808 : Int) ≤ s / (2 : Int) / (3 : Int) * (2 : Int) + s % (2 : Int) := by omega
theorem at_4_0_o11 (s : Int) (h : (0 : Int) ≤ s) (h3 : s < (192 : Int)) (hd : s / (2 : Int) % (3 : Int) = (0 : Int)) : s / (2 : Int) / (3 : Int) * (2 : Int) + s % (2 : Int) ≤ (9223372036854775807 : Int) := by omega
theorem at_4_0_o12 (p : Int) (p0 : (0 : Int) ≤ p) (p1 : p < (4 : Int)) : (-9223372036854775808 : Int) ≤ p + (1 : Int) := by omega
theorem at_4_0_o13 (p : Int) (p0 : (0 : Int) ≤ p) (p1 : p < (4 : Int)) : p + (1 : Int) ≤ (9223372036854775807 : Int) := by omega
theorem at_4_0_o14 (p : Int) (p0 : (0 : Int) ≤ p) (p1 : p < (4 : Int)) : (-9223372036854775808 : Int) ≤ p + (1 : Int) + (0 : Int) := by omega
theorem at_4_0_o15 (p : Int) (p0 : (0 : Int) ≤ p) (p1 : p < (4 : Int)) : p + (1 : Int) + (0 : Int) ≤ (9223372036854775807 : Int) := by omega
theorem at_4_0_o16 (p : Int) (p0 : (0 : Int) ≤ p) (p1 : p < (4 : Int)) : (0 : Int) ≤ p + (1 : Int) + (0 : Int) := by omega
theorem at_4_0_o17 (p : Int) (p0 : (0 : Int) ≤ p) (p1 : p < (4 : Int)) : (-9223372036854775808 : Int) ≤ p + (2 : Int) := by omega
theorem at_4_0_o18 (p : Int) (p0 : (0 : Int) ≤ p) (p1 : p < (4 : Int)) : p + (2 : Int) ≤ (9223372036854775807 : Int) := by omega
theorem at_4_0_o19 (p : Int) (p0 : (0 : Int) ≤ p) (p1 : p < (4 : Int)) : (0 : Int) ≤ p + (2 : Int) := by omega
theorem at_4_0_o20 (p : Int) (p0 : (0 : Int) ≤ p) (p1 : p < (4 : Int)) : (-9223372036854775808 : Int) ≤ p + (3 : Int) := by omega
theorem at_4_0_o21 (p : Int) (p0 : (0 : Int) ≤ p) (p1 : p < (4 : Int)) : p + (3 : Int) ≤ (9223372036854775807 : Int) := by omega
theorem at_4_0_o22 (p : Int) (p0 : (0 : Int) ≤ p) (p1 : p < (4 : Int)) : (0 : Int) ≤ p + (3 : Int) := by omega
theorem at_4_0 (Y : Ys Prop) (r s p : Int) (r2 : r ≤ 64) (h : 0 ≤ s) (h2 : s < sz 5 4 r) (h3 : s < 192) (hd : s / 2 % 3 = 0) (hp : pz 5 4 r (s / 2 / 3 * 2 + s % 2) = p) (ho : roB 5 4 r (s / 2 / 3 * 2 + s % 2) = true) (p0 : 0 ≤ p) (p1 : p < 4) (K : V → Mem → Prop) (hK : ∀ mm, K (.tuple [.int .i64 (s / 2 / 3 * 2 + s % 2), .int .i64 ((p + 1 + 0) % 4), .bool true]) mm) :
   body1 pA (callD pA tbA la4 5) Y c12 [geo 5 4 r, .int .i64 s] ⟨0, .leaf⟩ K :=
  walk_of_vc (mono4) (.wait 6 (.fix s12 (vb false) (.wait 5 (.fix s17 (vb false) (.wait 6 (.fix s20 (vi (s / 2)) (.wait 1 (.fix s22 (vi (s % 2)) (.wait 11 (.fix s27 (vi (s / 2 / 3)) (.wait 1 (.fix s32 (vi 0) (.wait 4 (.fix s34 (vi (s / 2 / 3 * 2)) (.wait 1 (.fix s36 (vi (s / 2 / 3 * 2 + s % 2)) (.wait 11 (.fix s12 (V.tuple [vi p, vb true]) (.wait 22 (.fix s25 (vi (p + 1)) (.wait 3 (.fix s27 (vi (p + 1 + 0)) (.wait 1 (.fix s30 (vi ((p + 1 + 0) % 4)) (.wait 13 (.fix s25 (vi (p + 1)) (.wait 3 (.fix s27 (vi (p + 2)) (.wait 1 (.fix s30 (vi ((p + 2) % 4)) (.wait 13 (.fix s25 (vi (p + 1)) (.wait 3 (.fix s27 (vi (p + 3)) (.wait 1 (.fix s30 (vi ((p + 3) % 4)) .nil))))))))))))))))))))))))))))))))))))
  (show (vb (ltI s 0) = vb false ∧ vb (nB (ltI s (sz 5 4 r))) = vb false ∧ vi (wr IntKind.i64 (Int.tdiv s 2)) = vi (s / 2) ∧ vi (Int.tmod s 2) = vi (s % 2) ∧ vi (wr IntKind.i64 (Int.tdiv (s / 2) 3)) = vi (s / 2 / 3) ∧ vi (Int.tmod (s / 2) 3) = vi 0 ∧ vi (wr IntKind.i64 (mulI (s / 2 / 3) 2)) = vi (s / 2 / 3 * 2) ∧ vi (wr IntKind.i64 (addI (s / 2 / 3 * 2) (s % 2))) = vi (s / 2 / 3 * 2 + s % 2) ∧ V.tuple [vi (pz 5 4 r (s / 2 / 3 * 2 + s % 2)), vb (roB 5 4 r (s / 2 / 3 * 2 + s % 2))] = V.tuple [vi p, vb true] ∧ vi (wr IntKind.i64 (addI p 1)) = vi (p + 1) ∧ vi (wr IntKind.i64 (addI (p + 1) 0)) = vi (p + 1 + 0) ∧ vi (Int.tmod (p + 1 + 0) 4) = vi ((p + 1 + 0) % 4) ∧ vi (wr IntKind.i64 (addI p 1)) = vi (p + 1) ∧ vi (wr IntKind.i64 (addI (p + 1) 1)) = vi (p + 2) ∧ vi (Int.tmod (p + 2) 4) = vi ((p + 2) % 4) ∧ vi (wr IntKind.i64 (addI p 1)) = vi (p + 1) ∧ vi (wr IntKind.i64 (addI (p + 1) 2)) = vi (p + 3) ∧ vi (Int.tmod (p + 3) 4) = vi ((p + 3) % 4) ∧ True ∧ V.tuple [vi (s / 2 / 3 * 2 + s % 2), vi ((p + 1 + 0) % 4), vb true] = V.tuple [vi (s / 2 / 3 * 2 + s % 2), vi ((p + 1 + 0) % 4), vb true]) from
  ⟨(cb (ltF rfl rfl (at_4_0_o0 s h h3 hd))), (cb (congrArg Bool.not (ltT rfl rfl (at_4_0_o1 r s r2 h h2 h3 hd ho)))), (ci (wE_i64 (tdivE rfl rfl (at_4_0_o2 s h h3 hd)) (at_4_0_o3 s h h3 hd) (at_4_0_o4 s h h3 hd))), (ci (tmodE rfl rfl (at_4_0_o2 s h h3 hd))), (ci (wE_i64 (tdivE rfl rfl (at_4_0_o5 s h h3 hd)) (at_4_0_o6 s h h3 hd) (at_4_0_o7 s h h3 hd))), (ci ((tmodE rfl rfl (at_4_0_o5 s h h3 hd)).trans hd)), (ci (wE_i64 (mulE rfl rfl) (at_4_0_o8 s h h3 hd) (at_4_0_o9 s h h3 hd))), (ci (wE_i64 (addE (hmulE rfl rfl) rfl) (at_4_0_o10 s h h3 hd) (at_4_0_o11 s h h3 hd))), (congrArg V.tuple (consE (ci hp) (consE (cb ho) rfl))), (ci (wE_i64 (addE rfl rfl) (at_4_0_o12 p p0 p1) (at_4_0_o13 p p0 p1))), (ci (wE_i64 (addE rfl rfl) (at_4_0_o14 p p0 p1) (at_4_0_o15 p p0 p1))), (ci (tmodE rfl rfl (at_4_0_o16 p p0 p1))), (ci (wE_i64 (addE rfl rfl) (at_4_0_o12 p p0 p1) (at_4_0_o13 p p0 p1))), (ci (wE_i64 ((addE rfl rfl).trans (Int.add_assoc _ _ _)) (at_4_0_o17 p p0 p1) (at_4_0_o18 p p0 p1))), (ci (tmodE rfl rfl (at_4_0_o19 p p0 p1))), (ci (wE_i64 (addE rfl rfl) (at_4_0_o12 p p0 p1) (at_4_0_o13 p p0 p1))), (ci (wE_i64 ((addE rfl rfl).trans (Int.add_assoc _ _ _)) (at_4_0_o20 p p0 p1) (at_4_0_o21 p p0 p1))), (ci (tmodE rfl rfl (at_4_0_o22 p p0 p1))), trivial, (by first | rfl | rw [show (p + 1 + 0 : Int) = p + 1 by omega])⟩)
  (by kernel_rfl) Y K hK

theorem at_4_1_o0 (s : Int) (h : (0 : Int) ≤ s) (h3 : s < (192 : Int)) (hd : s / (2 : Int) % (3 : Int) = (1 : Int)) : ¬s < (0 : Int) := by omega
theorem at_4_1_o1 (r : Int) (s : Int) (r2 : r ≤ (64 : Int)) (h : (0 : Int) ≤ s) (h2 : s < sz (5 : Int) (4 : Int) r) (h3 : s < (192 : Int)) (hd : s / (2 : Int) % (3 : Int) = (1 : Int)) (ho : roB (5 : Int) (4 : Int) r (s / (2 : Int) / (3 : Int) * (2 : Int) + s % (2 : Int)) = true) : s < sz (5 : Int) (4 : Int) r := by omega
theorem at_4_1_o2 (s : Int) (h : (0 : Int) ≤ s) (h3 : s < (192 : Int)) (hd : s / (2 : Int) % (3 : Int) = (1 : Int)) : (0 : Int) ≤ s := by omega
theorem at_4_1_o3 (s : Int) (h : (0 : Int) ≤ s) (h3 : s < (192 : Int)) (hd : s / (2 : Int) % (3 : Int) = (1 : Int)) : (-9223372036854775808 : Int) ≤ s / (2 : Int) := by omega
theorem at_4_1_o4 (s : Int) (h : (0 : Int) ≤ s) (h3 : s < (192 : Int)) (hd : s / (2 : Int) % (3 : Int) = (1 : Int)) : s / (2 : Int) ≤ (9223372036854775807 : Int) := by omega
theorem at_4_1_o5 (s : Int) (h : (0 : Int) ≤ s) (h3 : s < (192 : Int)) (hd : s / (2 : Int) % (3 : Int) = (1 : Int)) : (0 : Int) ≤ s / (2 : Int) := by omega
theorem at_4_1_o6 (s : Int) (h : (0 : Int) ≤ s) (h3 : s < (192 : Int)) (hd : s / (2 : Int) % (3 : Int) = (1 : Int)) : (-9223372036854775808 : Int) ≤ s / (2 : Int) / (3 : Int) := by omega
theorem at_4_1_o7 (s : Int) (h : (0 : Int) ≤ s) (h3 : s < (192 : Int)) (hd : s / (2 : Int) % (3 : Int) = (1 : Int)) : s / (2 : Int) / (3 : Int) ≤ (9223372036854775807 : Int) := by omega
theorem at_4_1_o8 (s : Int) (h : (0 : Int) ≤ s) (h3 : s < (192 : Int)) (hd : s / (2 : Int) % (3 : Int) = (1 : Int)) : (-9223372036854775808 : Int) ≤ s / (2 : Int) / (3 : Int) * (2 : Int) := by omega
theorem at_4_1_o9 (s : Int) (h : (0 : Int) ≤ s) (h3 : s < (192 : Int)) (hd : s / (2 : Int) % (3 : Int) = (1 : Int)) : s / (2 : Int) / (3 : Int) * (2 : Int) ≤ (9223372036854775807 : Int) := by omega
theorem at_4_1_o10 (s : Int) (h : (0 : Int) ≤ s) (h3 : s < (192 : Int)) (hd : s / (2 : Int) % (3 : Int) = (1 : Int)) : (-9223372036854775808 : Int) ≤ s / (2 : Int) / (3 : Int) * (2 : Int) + s % (2 : Int) := by omega
theorem at_4_1_o11 (s : Int) (h : (0 : Int) ≤ s) (h3 : s < (192 : Int)) (hd : s / (2 : Int) % (3 : Int) = (1 : Int)) : s / (2 : Int) / (3 : Int) * (2 : Int) + s % (2 : Int) ≤ (9223372036854775807 : Int) := by omega
theorem at_4_1_o12 (p : Int) (p0 : (0 : Int) ≤ p) (p1 : p < (4 : Int)) : (-9223372036854775808 : Int) ≤ p + (1 : Int) := by omega
theorem at_4_1_o13 (p : Int) (p0 : (0 : Int) ≤ p) (p1 : p < (4 : Int)) : p + (1 : Int) ≤ (9223372036854775807 : Int) := by omega
theorem at_4_1_o14 (p : Int) (p0 : (0 : Int) ≤ p) (p1 : p < (4 : Int)) : (-9223372036854775808 : Int) ≤ p + (1 : Int) + (0 : Int) := by omega
theorem at_4_1_o15 (p : Int) (p0 : (0 : Int) ≤ p) (p1 : p < (4 : Int)) : p + (1 : Int) + (0 : Int) ≤ (9223372036854775807 : Int) := by omega
theorem at_4_1_o16 (p : Int) (p0 : (0 : Int) ≤ p) (p1 : p < (4 : Int)) : (0 : Int) ≤ p + (1 : Int) + (0 : Int) := by omega
theorem at_4_1_o17 (p : Int) (p0 : (0 : Int) ≤ p) (p1 : p < (4 : Int)) : (-9223372036854775808 : Int) ≤ p + (2 : Int) := by omega
theorem at_4_1_o18 (p : Int) (p0 : (0 : Int) ≤ p) (p1 : p < (4 : Int)) : p + (2 : Int) ≤ (9223372036854775807 : Int) := by omega
theorem at_4_1_o19 (p : Int) (p0 : (0 : Int) ≤ p) (p1 : p < (4 : Int)) : (0 : Int) ≤ p + (2 : Int) := by omega
theorem at_4_1_o20 (p : Int) (p0 : (0 : Int) ≤ p) (p1 : p < (4 : Int)) : (-9223372036854775808 : Int) ≤ p + (3 : Int) := by omega
theorem at_4_1_o21 (p : Int) (p0 : (0 : Int) ≤ p) (p1 : p < (4 : Int)) : p + (3 : Int) ≤ (9223372036854775807 : Int) := by omega
theorem at_4_1_o22 (p : Int) (p0 : (0 : Int) ≤ p) (p1 : p < (4 : Int)) : (0 : Int) ≤ p + (3 : Int) := by omega
theorem at_4_1 (Y : Ys Prop) (r s p : Int) (r2 : r ≤ 64) (h : 0 ≤ s) (h2 : s < sz 5 4 r) (h3 : s < 192) (hd : s / 2 % 3 = 1) (hp : pz 5 4 r (s / 2 / 3 * 2 + s % 2) = p) (ho : roB 5 4 r (s / 2 / 3 * 2 + s % 2) = true) (p0 : 0 ≤ p) (p1 : p < 4) (K : V → Mem → Prop) (hK : ∀ mm, K (.tuple [.int .i64 (s / 2 / 3 * 2 + s % 2), .int .i64 ((p + 1 + 1) % 4), .bool true]) mm) :
   body1 pA (callD pA tbA la4 5) Y c12 [geo 5 4 r, .int .i64 s] ⟨0, .leaf⟩ K :=
  walk_of_vc (mono4) (.wait 6 (.fix s12 (vb false) (.wait 5 (.fix s17 (vb false) (.wait 6 (.fix s20 (vi (s / 2)) (.wait 1 (.fix s22 (vi (s % 2)) (.wait 11 (.fix s27 (vi (s / 2 / 3)) (.wait 1 (.fix s32 (vi 1) (.wait 4 (.fix s34 (vi (s / 2 / 3 * 2)) (.wait 1 (.fix s36 (vi (s / 2 / 3 * 2 + s % 2)) (.wait 11 (.fix s12 (V.tuple [vi p, vb true]) (.wait 22 (.fix s25 (vi (p + 1)) (.wait 3 (.fix s27 (vi (p + 1 + 0)) (.wait 1 (.fix s30 (vi ((p + 1 + 0) % 4)) (.wait 13 (.fix s25 (vi (p + 1)) (.wait 3 (.fix s27 (vi (p + 2)) (.wait 1 (.fix s30 (vi ((p + 2) % 4)) (.wait 13 (.fix s25 (vi (p + 1)) (.wait 3 (.fix s27 (vi (p + 3)) (.wait 1 (.fix s30 (vi ((p + 3) % 4)) .nil))))))))))))))))))))))))))))))))))))
  (show (vb (ltI s 0) = vb false ∧ vb (nB (ltI s (sz 5 4 r))) = vb false ∧ vi (wr IntKind.i64 (Int.tdiv s 2)) = vi (s / 2) ∧ vi (Int.tmod s 2) = vi (s % 2) ∧ vi (wr IntKind.i64 (Int.tdiv (s / 2) 3)) = vi (s / 2 / 3) ∧ vi (Int.tmod (s / 2) 3) = vi 1 ∧ vi (wr IntKind.i64 (mulI (s / 2 / 3) 2)) = vi (s / 2 / 3 * 2) ∧ vi (wr IntKind.i64 (addI (s / 2 / 3 * 2) (s % 2))) = vi (s / 2 / 3 * 2 + s % 2) ∧ V.tuple [vi (pz 5 4 r (s / 2 / 3 * 2 + s % 2)), vb (roB 5 4 r (s / 2 / 3 * 2 + s % 2))] = V.tuple [vi p, vb true] ∧ vi (wr IntKind.i64 (addI p 1)) = vi (p + 1) ∧ vi (wr IntKind.i64 (addI (p + 1) 0)) = vi (p + 1 + 0) ∧ vi (Int.tmod (p + 1 + 0) 4) = vi ((p + 1 + 0) % 4) ∧ vi (wr IntKind.i64 (addI p 1)) = vi (p + 1) ∧ vi (wr IntKind.i64 (addI (p + 1) 1)) = vi (p + 2) ∧ vi (Int.tmod (p + 2) 4) = vi ((p + 2) % 4) ∧ vi (wr IntKind.i64 (addI p 1)) = vi (p + 1) ∧ vi (wr IntKind.i64 (addI (p + 1) 2)) = vi (p + 3) ∧ vi (Int.tmod (p + 3) 4) = vi ((p + 3) % 4) ∧ True ∧ V.tuple [vi (s / 2 / 3 * 2 + s % 2), vi ((p + 2) % 4), vb true] = V.tuple [vi (s / 2 / 3 * 2 + s % 2), vi ((p + 1 + 1) % 4), vb true]) from
  ⟨(cb (ltF rfl rfl (at_4_1_o0 s h h3 hd))), (cb (congrArg Bool.not (ltT rfl rfl (at_4_1_o1 r s r2 h h2 h3 hd ho)))), (ci (wE_i64 (tdivE rfl rfl (at_4_1_o2 s h h3 hd)) (at_4_1_o3 s h h3 hd) (at_4_1_o4 s h h3 hd))), (ci (tmodE rfl rfl (at_4_1_o2 s h h3 hd))), (ci (wE_i64 (tdivE rfl rfl (at_4_1_o5 s h h3 hd)) (at_4_1_o6 s h h3 hd) (at_4_1_o7 s h h3 hd))), (ci ((tmodE rfl rfl (at_4_1_o5 s h h3 hd)).trans hd)), (ci (wE_i64 (mulE rfl rfl) (at_4_1_o8 s h h3 hd) (at_4_1_o9 s h h3 hd))), (ci (wE_i64 (addE (hmulE rfl rfl) rfl) (at_4_1_o10 s h h3 hd) (at_4_1_o11 s h h3 hd))), (congrArg V.tuple (consE (ci hp) (consE (cb ho) rfl))), (ci (wE_i64 (addE rfl rfl) (at_4_1_o12 p p0 p1) (at_4_1_o13 p p0 p1))), (ci (wE_i64 (addE rfl rfl) (at_4_1_o14 p p0 p1) (at_4_1_o15 p p0 p1))), (ci (tmodE rfl rfl (at_4_1_o16 p p0 p1))), (ci (wE_i64 (addE rfl rfl) (at_4_1_o12 p p0 p1) (at_4_1_o13 p p0 p1))), (ci (wE_i64 ((addE rfl rfl).trans (Int.add_assoc _ _ _)) (at_4_1_o17 p p0 p1) (at_4_1_o18 p p0 p1))), (ci (tmodE rfl rfl (at_4_1_o19 p p0 p1))), (ci (wE_i64 (addE rfl rfl) (at_4_1_o12 p p0 p1) (at_4_1_o13 p p0 p1))), (ci (wE_i64 ((addE rfl rfl).trans (Int.add_assoc _ _ _)) (at_4_1_o20 p p0 p1) (at_4_1_o21 p p0 p1))), (ci (tmodE rfl rfl (at_4_1_o22 p p0 p1))), trivial, (by first | rfl | rw [show (p + 1 + 1 : Int) = p + 2 by omega])⟩)
  (by kernel_rfl) Y K hK

theorem at_4_2_o0 (s : Int) (h : (0 : Int) ≤ s) (h3 : s < (192 : Int)) (hd : s / (2 : Int) % (3 : Int) = (2 : Int)) : ¬s < (0 : Int) := by omega
theorem at_4_2_o1 (r : Int) (s : Int) (r2 : r ≤ (64 : Int)) (h : (0 : Int) ≤ s) (h2 : s < sz (5 : Int) (4 : Int) r) (h3 : s < (192 : Int)) (hd : s / (2 : Int) % (3 : Int) = (2 : Int)) (ho : roB (5 : Int) (4 : Int) r (s / (2 : Int) / (3 : Int) * (2 : Int) + s % (2 : Int)) = true) : s < sz (5 : Int) (4 : Int) r := by omega
theorem at_4_2_o2 (s : Int) (h : (0 : Int) ≤ s) (h3 : s < (192 : Int)) (hd : s / (2 : Int) % (3 : Int) = (2 : Int)) : (0 : Int) ≤ s := by omega
theorem at_4_2_o3 (s : Int) (h : (0 : Int) ≤ s) (h3 : s < (192 : Int)) (hd : s / (2 : Int) % (3 : Int) = (2 : Int)) : (-9223372036854775808 : Int) ≤ s / (2 : Int) := by omega
theorem at_4_2_o4 (s : Int) (h : (0 : Int) ≤ s) (h3 : s < (192 : Int)) (hd : s / (2 : Int) % (3 : Int) = (2 : Int)) : s / (2 : Int) ≤ (9223372036854775807 : Int) := by omega
theorem at_4_2_o5 (s : Int) (h : (0 : Int) ≤ s) (h3 : s < (192 : Int)) (hd : s / (2 : Int) % (3 : Int) = (2 : Int)) : (0 : Int) ≤ s / (2 : Int) := by omega
theorem at_4_2_o6 (s : Int) (h : (0 : Int) ≤ s) (h3 : s < (192 : Int)) (hd : s / (2 : Int) % (3 : Int) = (2 : Int)) : (-9223372036854775808 : Int) ≤ s / (2 : Int) / (3 : Int) := by omega
theorem at_4_2_o7 (s : Int) (h : (0 : Int) ≤ s) (h3 : s < (192 : Int)) (hd : s / (2 : Int) % (3 : Int) = (2 : Int)) : s / (2 : Int) / (3 : Int) ≤ (9223372036854775807 : Int) := by omega
theorem at_4_2_o8 (s : Int) (h : (0 : Int) ≤ s) (h3 : s < (192 : Int)) (hd : s / (2 : Int) % (3 : Int) = (2 : Int)) : (-9223372036854775808 : Int) ≤ s / (2 : Int) / (3 : Int) * (2 : Int) := by omega
theorem at_4_2_o9 (s : Int) (h : (0 : Int) ≤ s) (h3 : s < (192 : Int)) (hd : s / (2 : Int) % (3 : Int) = (2 : Int)) : s / (2 : Int) / (3 : Int) * (2 : Int) ≤ (9223372036854775807 : Int) := by omega
theorem at_4_2_o10 (s : Int) (h : (0 : Int) ≤ s) (h3 : s < (192 : Int)) (hd : s / (2 : Int) % (3 : Int) = (2 : Int)) : (-9223372036854775808 : Int) ≤ s / (2 : Int) / (3 : Int) * (2 : Int) + s % (2 : Int) := by omega
theorem at_4_2_o11 (s : Int) (h : (0 : Int) ≤ s) (h3 : s < (192 : Int)) (hd : s / (2 : Int) % (3 : Int) = (2 : Int)) : s / (2 : Int) / (3 : Int) * (2 : Int) + s % (2 : Int) ≤ (9223372036854775807 : Int) := by omega
theorem at_4_2_o12 (p : Int) (p0 : (0 : Int) ≤ p) (p1 : p < (4 : Int)) : (-9223372036854775808 : Int) ≤ p + (1 : Int) := by omega
theorem at_4_2_o13 (p : Int) (p0 : (0 : Int) ≤ p) (p1 : p < (4 : Int)) : p + (1 : Int) ≤ (9223372036854775807 : Int) := by omega
theorem at_4_2_o14 (p : Int) (p0 : (0 : Int) ≤ p) (p1 : p < (4 : Int)) : (-9223372036854775808 : Int) ≤ p + (1 : Int) + (0 : Int) := by omega
theorem at_4_2_o15 (p : Int) (p0 : (0 : Int) ≤ p) (p1 : p < (4 : Int)) : p + (1 : Int) + (0 : Int) ≤ (9223372036854775807 : Int) := by omega
theorem at_4_2_o16 (p : Int) (p0 : (0 : Int) ≤ p) (p1 : p < (4 : Int)) : (0 : Int) ≤ p + (1 : Int) + (0 : Int) := by omega
theorem at_4_2_o17 (p : Int) (p0 : (0 : Int) ≤ p) (p1 : p < (4 : Int)) : (-9223372036854775808 : Int) ≤ p + (2 : Int) := by omega
theorem at_4_2_o18 (p : Int) (p0 : (0 : Int) ≤ p) (p1 : p < (4 : Int)) : p + (2 : Int) ≤ (9223372036854775807 : Int) := by omega
theorem at_4_2_o19 (p : Int) (p0 : (0 : Int) ≤ p) (p1 : p < (4 : Int)) : (0 : Int) ≤ p + (2 : Int) := by omega
theorem at_4_2_o20 (p : Int) (p0 : (0 : Int) ≤ p) (p1 : p < (4 : Int)) : (-9223372036854775808 : Int) ≤ p + (3 : Int) := by omega
theorem at_4_2_o21 (p : Int) (p0 : (0 : Int) ≤ p) (p1 : p < (4 : Int)) : p + (3 : Int) ≤ (9223372036854775807 : Int) := by omega
theorem at_4_2_o22 (p : Int) (p0 : (0 : Int) ≤ p) (p1 : p < (4 : Int)) : (0 : Int) ≤ p + (3 : Int) := by omega
theorem at_4_2 (Y : Ys Prop) (r s p : Int) (r2 : r ≤ 64) (h : 0 ≤ s) (h2 : s < sz 5 4 r) (h3 : s < 192) (hd : s / 2 % 3 = 2) (hp : pz 5 4 r (s / 2 / 3 * 2 + s % 2) = p) (ho : roB 5 4 r (s / 2 / 3 * 2 + s % 2) = true) (p0 : 0 ≤ p) (p1 : p < 4) (K : V → Mem → Prop) (hK : ∀ mm, K (.tuple [.int .i64 (s / 2 / 3 * 2 + s % 2), .int .i64 ((p + 1 + 2) % 4), .bool true]) mm) :
   body1 pA (callD pA tbA la4 5) Y c12 [geo 5 4 r, .int .i64 s] ⟨0, .leaf⟩ K :=
  walk_of_vc (mono4) (.wait 6 (.fix s12 (vb false) (.wait 5 (.fix s17 (vb false) (.wait 6 (.fix s20 (vi (s / 2)) (.wait 1 (.fix s22 (vi (s % 2)) (.wait 11 (.fix s27 (vi (s / 2 / 3)) (.wait 1 (.fix s32 (vi 2) (.wait 4 (.fix s34 (vi (s / 2 / 3 * 2)) (.wait 1 (.fix s36 (vi (s / 2 / 3 * 2 + s % 2)) (.wait 11 (.fix s12 (V.tuple [vi p, vb true]) (.wait 22 (.fix s25 (vi (p + 1)) (.wait 3 (.fix s27 (vi (p + 1 + 0)) (.wait 1 (.fix s30 (vi ((p + 1 + 0) % 4)) (.wait 13 (.fix s25 (vi (p + 1)) (.wait 3 (.fix s27 (vi (p + 2)) (.wait 1 (.fix s30 (vi ((p + 2) % 4)) (.wait 13 (.fix s25 (vi (p + 1)) (.wait 3 (.fix s27 (vi (p + 3)) (.wait 1 (.fix s30 (vi ((p + 3) % 4)) .nil))))))))))))))))))))))))))))))))))))
  (show (vb (ltI s 0) = vb false ∧ vb (nB (ltI s (sz 5 4 r))) = vb false ∧ vi (wr IntKind.i64 (Int.tdiv s 2)) = vi (s / 2) ∧ vi (Int.tmod s 2) = vi (s % 2) ∧ vi (wr IntKind.i64 (Int.tdiv (s / 2) 3)) = vi (s / 2 / 3) ∧ vi (Int.tmod (s / 2) 3) = vi 2 ∧ vi (wr IntKind.i64 (mulI (s / 2 / 3) 2)) = vi (s / 2 / 3 * 2) ∧ vi (wr IntKind.i64 (addI (s / 2 / 3 * 2) (s % 2))) = vi (s / 2 / 3 * 2 + s % 2) ∧ V.tuple [vi (pz 5 4 r (s / 2 / 3 * 2 + s % 2)), vb (roB 5 4 r (s / 2 / 3 * 2 + s % 2))] = V.tuple [vi p, vb true] ∧ vi (wr IntKind.i64 (addI p 1)) = vi (p + 1) ∧ vi (wr IntKind.i64 (addI (p + 1) 0)) = vi (p + 1 + 0) ∧ vi (Int.tmod (p + 1 + 0) 4) = vi ((p + 1 + 0) % 4) ∧ vi (wr IntKind.i64 (addI p 1)) = vi (p + 1) ∧ vi (wr IntKind.i64 (addI (p + 1) 1)) = vi (p + 2) ∧ vi (Int.tmod (p + 2) 4) = vi ((p + 2) % 4) ∧ vi (wr IntKind.i64 (addI p 1)) = vi (p + 1) ∧ vi (wr IntKind.i64 (addI (p + 1) 2)) = vi (p + 3) ∧ vi (Int.tmod (p + 3) 4) = vi ((p + 3) % 4) ∧ True ∧ V.tuple [vi (s / 2 / 3 * 2 + s % 2), vi ((p + 3) % 4), vb true] = V.tuple [vi (s / 2 / 3 * 2 + s % 2), vi ((p + 1 + 2) % 4), vb true]) from
  ⟨(cb (ltF rfl rfl (at_4_2_o0 s h h3 hd))), (cb (congrArg Bool.not (ltT rfl rfl (at_4_2_o1 r s r2 h h2 h3 hd ho)))), (ci (wE_i64 (tdivE rfl rfl (at_4_2_o2 s h h3 hd)) (at_4_2_o3 s h h3 hd) (at_4_2_o4 s h h3 hd))), (ci (tmodE rfl rfl (at_4_2_o2 s h h3 hd))), (ci (wE_i64 (tdivE rfl rfl (at_4_2_o5 s h h3 hd)) (at_4_2_o6 s h h3 hd) (at_4_2_o7 s h h3 hd))), (ci ((tmodE rfl rfl (at_4_2_o5 s h h3 hd)).trans hd)), (ci (wE_i64 (mulE rfl rfl) (at_4_2_o8 s h h3 hd) (at_4_2_o9 s h h3 hd))), (ci (wE_i64 (addE (hmulE rfl rfl) rfl) (at_4_2_o10 s h h3 hd) (at_4_2_o11 s h h3 hd))), (congrArg V.tuple (consE (ci hp) (consE (cb ho) rfl))), (ci (wE_i64 (addE rfl rfl) (at_4_2_o12 p p0 p1) (at_4_2_o13 p p0 p1))), (ci (wE_i64 (addE rfl rfl) (at_4_2_o14 p p0 p1) (at_4_2_o15 p p0 p1))), (ci (tmodE rfl rfl (at_4_2_o16 p p0 p1))), (ci (wE_i64 (addE rfl rfl) (at_4_2_o12 p p0 p1) (at_4_2_o13 p p0 p1))), (ci (wE_i64 ((addE rfl rfl).trans (Int.add_assoc _ _ _)) (at_4_2_o17 p p0 p1) (at_4_2_o18 p p0 p1))), (ci (tmodE rfl rfl (at_4_2_o19 p p0 p1))), (ci (wE_i64 (addE rfl rfl) (at_4_2_o12 p p0 p1) (at_4_2_o13 p p0 p1))), (ci (wE_i64 ((addE rfl rfl).trans (Int.add_assoc _ _ _)) (at_4_2_o20 p p0 p1) (at_4_2_o21 p p0 p1))), (ci (tmodE rfl rfl (at_4_2_o22 p p0 p1))), trivial, (by first | rfl | rw [show (p + 1 + 2 : Int) = p + 3 by omega])⟩)
  (by kernel_rfl) Y K hK

end Go.Proofs.Ytefklpegpecliaa
