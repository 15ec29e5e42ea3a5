/- Works: runs by script. No condition. -/
import Derived.Test.YthmbmcpjakbepaaPW
namespace Go.Proofs.Ythmbmcpjakbepaa
open Go Go.AM
set_option maxRecDepth 100000
set_option maxHeartbeats 0
set_option linter.unusedVariables false
noncomputable abbrev wk_a_Qa (n o : Int) (i : Nat) : List (Sl × V) := [(s1, .ptr 0 0), (s2, .bool false), (s3, .int .i64 o), (s12, .int .i64 n), (s13, .int .i64 ((i : Nat) : Int))]
noncomputable abbrev wk_a_Qb (n o : Int) (i : Nat) : List (Sl × V) := [(s1, .ptr 0 0), (s2, .bool false), (s3, .int .i64 (o + 1)), (s12, .int .i64 n), (s13, .int .i64 ((i + 1 : Nat) : Int))]
noncomputable abbrev wk_a_Qc (a m l n r e p x0 x1 x2 x3 c d0 d1 d2 d3 : Int) (f0 f1 f2 f3 : Bool) : Mem := memL 1 [(0, .cells (mad a m l n r e p x0 x1 x2 x3 c d0 d1 d2 d3 f0 f1 f2 f3) false)]
theorem wk_a_o0 (n : Int) (i : Nat) (n1 : (2 : Int) ≤ n) (n2 : n ≤ (4 : Int)) (i4 : i < (4 : Nat)) (hi : (↑i : Int) < n) : (↑i : Int) < n := by omega
theorem wk_a_o1 (i : Nat) (i4 : i < (4 : Nat)) : i < (4 : Nat) := by omega
theorem wk_a_o2 (o : Int) (o1 : (0 : Int) ≤ o) (o2 : o ≤ (10 : Int)) : (-9223372036854775808 : Int) ≤ o + (1 : Int) := by omega
theorem wk_a_o3 (o : Int) (o1 : (0 : Int) ≤ o) (o2 : o ≤ (10 : Int)) : o + (1 : Int) ≤ (9223372036854775807 : Int) := by omega
theorem wk_a_o4 (i : Nat) (i4 : i < (4 : Nat)) : (-9223372036854775808 : Int) ≤ (↑(i + (1 : Nat)) : Int) := by omega
theorem wk_a_o5 (i : Nat) (i4 : i < (4 : Nat)) : (↑(i + (1 : Nat)) : Int) ≤ (9223372036854775807 : Int) := by omega
theorem wk_a (Y : Ys Prop) (a m l n r e p x0 x1 x2 x3 c d0 d1 d2 d3 : Int) (f0 f1 f2 f3 : Bool) (o : Int) (o1 : 0 ≤ o) (o2 : o ≤ 10) (n1 : 2 ≤ n) (n2 : n ≤ 4) (i : Nat) (i4 : i < 4) (hi : ((i : Nat) : Int) < n) (hf : nth (mad a m l n r e p x0 x1 x2 x3 c d0 d1 d2 d3 f0 f1 f2 f3) (16 + i * 1) = some (.bool false)) (T : Slots) (hT : allS T (wk_a_Qa n o i)) (K : Ex → Slots → Mem → Prop) (hK : ∀ T', allS T' (wk_a_Qb n o i) → K (.normal) T' (wk_a_Qc a m l n r e p x0 x1 x2 x3 c d0 d1 d2 d3 f0 f1 f2 f3)) :
   code pA (callD pA tb0 la2 5) Y c26l0 T (wk_a_Qc a m l n r e p x0 x1 x2 x3 c d0 d1 d2 d3 f0 f1 f2 f3) K :=
  code_of_vc (mono2) (fixS (wk_a_Qa n o i) (.wait 1 (.fix s14 (vb true) (.wait 5 (.res (V.ptr 0 (16 + i * 1)) (.res (vb false) (.wait 12 (.fix s30 (vi (o + 1)) (.wait 2 (.fix s31 (vi ↑(i + 1)) .nil))))))))))
  (show (AndS T (wk_a_Qa n o i) (vb (ltI (↑i) n) = vb true ∧ iaddrAV (4) 1 (V.ptr 0 16) (vi ↑i) = some (V.ptr 0 (16 + i * 1)) ∧ nth (mad a m l n r e p x0 x1 x2 x3 c d0 d1 d2 d3 f0 f1 f2 f3) (16 + i * 1) = some (vb false) ∧ vi (wr IntKind.i64 (addI o 1)) = vi (o + 1) ∧ vi (wr IntKind.i64 (addI (↑i) 1)) = vi ↑(i + 1) ∧ Ex.normal = Ex.normal ∧ rR (wk_a_Qc a m l n r e p x0 x1 x2 x3 c d0 d1 d2 d3 f0 f1 f2 f3) ∧ SamS (wk_a_Qb n o i))) from
  andS hT ⟨cb (ltT rfl rfl (wk_a_o0 n i n1 n2 i4 hi)), (iaddrA_ok (i := i) rfl (wk_a_o1 i i4)), hf, (ci (wE_i64 (addE rfl rfl) (wk_a_o2 o o1 o2) (wk_a_o3 o o1 o2))), (ci (wE_i64 (addN (a := i) (b := 1) rfl rfl) (wk_a_o4 i i4) (wk_a_o5 i i4))), rfl, rfl, (samS _)⟩)
  (by kernel_rfl) Y K hK
theorem wk_b_o2 (x : Int) (h1 : x ≠ (1 : Int)) : ¬x = (1 : Int) := by omega
theorem wk_b (Y : Ys Prop) (a m l n r e p x0 x1 x2 x3 c d0 d1 d2 d3 : Int) (f0 f1 f2 f3 : Bool) (o : Int) (o1 : 0 ≤ o) (o2 : o ≤ 10) (n1 : 2 ≤ n) (n2 : n ≤ 4) (i : Nat) (i4 : i < 4) (hi : ((i : Nat) : Int) < n) (hf : nth (mad a m l n r e p x0 x1 x2 x3 c d0 d1 d2 d3 f0 f1 f2 f3) (16 + i * 1) = some (.bool true)) (x : Int) (hx : nth (mad a m l n r e p x0 x1 x2 x3 c d0 d1 d2 d3 f0 f1 f2 f3) (7 + i * 1) = some (.int .i64 x)) (h1 : x ≠ 1) (T : Slots) (hT : allS T (wk_a_Qa n o i)) (K : Ex → Slots → Mem → Prop) (hK : ∀ T', allS T' (wk_a_Qb n o i) → K (.normal) T' (wk_a_Qc a m l n r e p x0 x1 x2 x3 c d0 d1 d2 d3 f0 f1 f2 f3)) :
   code pA (callD pA tb0 la2 5) Y c26l0 T (wk_a_Qc a m l n r e p x0 x1 x2 x3 c d0 d1 d2 d3 f0 f1 f2 f3) K :=
  code_of_vc (mono2) (fixS (wk_a_Qa n o i) (.wait 1 (.fix s14 (vb true) (.wait 5 (.res (V.ptr 0 (16 + i * 1)) (.res (vb true) (.wait 5 (.res (V.ptr 0 (7 + i * 1)) (.res (vi x) (.wait 1 (.fix s27 (vb true) (.wait 4 (.fix s30 (vi (o + 1)) (.wait 2 (.fix s31 (vi ↑(i + 1)) .nil)))))))))))))))
  (show (AndS T (wk_a_Qa n o i) (vb (ltI (↑i) n) = vb true ∧ iaddrAV (4) 1 (V.ptr 0 16) (vi ↑i) = some (V.ptr 0 (16 + i * 1)) ∧ nth (mad a m l n r e p x0 x1 x2 x3 c d0 d1 d2 d3 f0 f1 f2 f3) (16 + i * 1) = some (vb true) ∧ iaddrAV (4) 1 (V.ptr 0 7) (vi ↑i) = some (V.ptr 0 (7 + i * 1)) ∧ nth (mad a m l n r e p x0 x1 x2 x3 c d0 d1 d2 d3 f0 f1 f2 f3) (7 + i * 1) = some (vi x) ∧ vb (nB (eqI x 1)) = vb true ∧ vi (wr IntKind.i64 (addI o 1)) = vi (o + 1) ∧ vi (wr IntKind.i64 (addI (↑i) 1)) = vi ↑(i + 1) ∧ Ex.normal = Ex.normal ∧ rR (wk_a_Qc a m l n r e p x0 x1 x2 x3 c d0 d1 d2 d3 f0 f1 f2 f3) ∧ SamS (wk_a_Qb n o i))) from
  andS hT ⟨cb (ltT rfl rfl (wk_a_o0 n i n1 n2 i4 hi)), (iaddrA_ok (i := i) rfl (wk_a_o1 i i4)), hf, (iaddrA_ok (i := i) rfl (wk_a_o1 i i4)), hx, (cb (congrArg Bool.not (eqF rfl rfl (wk_b_o2 x h1)))), (ci (wE_i64 (addE rfl rfl) (wk_a_o2 o o1 o2) (wk_a_o3 o o1 o2))), (ci (wE_i64 (addN (a := i) (b := 1) rfl rfl) (wk_a_o4 i i4) (wk_a_o5 i i4))), rfl, rfl, (samS _)⟩)
  (by kernel_rfl) Y K hK
noncomputable abbrev wk_c_Qa (n o : Int) (i : Nat) : List (Sl × V) := [(s1, .ptr 0 0), (s2, .bool false), (s3, .int .i64 o), (s12, .int .i64 n), (s13, .int .i64 ((i + 1 : Nat) : Int))]
theorem wk_c (Y : Ys Prop) (a m l n r e p x0 x1 x2 x3 c d0 d1 d2 d3 : Int) (f0 f1 f2 f3 : Bool) (o : Int) (o1 : 0 ≤ o) (o2 : o ≤ 10) (n1 : 2 ≤ n) (n2 : n ≤ 4) (i : Nat) (i4 : i < 4) (hi : ((i : Nat) : Int) < n) (hf : nth (mad a m l n r e p x0 x1 x2 x3 c d0 d1 d2 d3 f0 f1 f2 f3) (16 + i * 1) = some (.bool true)) (hx : nth (mad a m l n r e p x0 x1 x2 x3 c d0 d1 d2 d3 f0 f1 f2 f3) (7 + i * 1) = some (.int .i64 1)) (T : Slots) (hT : allS T (wk_a_Qa n o i)) (K : Ex → Slots → Mem → Prop) (hK : ∀ T', allS T' (wk_c_Qa n o i) → K (.normal) T' (wk_a_Qc a m l n r e p x0 x1 x2 x3 c d0 d1 d2 d3 f0 f1 f2 f3)) :
   code pA (callD pA tb0 la2 5) Y c26l0 T (wk_a_Qc a m l n r e p x0 x1 x2 x3 c d0 d1 d2 d3 f0 f1 f2 f3) K :=
  code_of_vc (mono2) (fixS (wk_a_Qa n o i) (.wait 1 (.fix s14 (vb true) (.wait 5 (.res (V.ptr 0 (16 + i * 1)) (.res (vb true) (.wait 5 (.res (V.ptr 0 (7 + i * 1)) (.res (vi (Int.ofNat 1)) (.wait 4 (.fix s31 (vi ↑(i + 1)) .nil)))))))))))
  (show (AndS T (wk_a_Qa n o i) (vb (ltI (↑i) n) = vb true ∧ iaddrAV (4) 1 (V.ptr 0 16) (vi ↑i) = some (V.ptr 0 (16 + i * 1)) ∧ nth (mad a m l n r e p x0 x1 x2 x3 c d0 d1 d2 d3 f0 f1 f2 f3) (16 + i * 1) = some (vb true) ∧ iaddrAV (4) 1 (V.ptr 0 7) (vi ↑i) = some (V.ptr 0 (7 + i * 1)) ∧ nth (mad a m l n r e p x0 x1 x2 x3 c d0 d1 d2 d3 f0 f1 f2 f3) (7 + i * 1) = some (vi (Int.ofNat 1)) ∧ vi (wr IntKind.i64 (addI (↑i) 1)) = vi ↑(i + 1) ∧ Ex.normal = Ex.normal ∧ rR (wk_a_Qc a m l n r e p x0 x1 x2 x3 c d0 d1 d2 d3 f0 f1 f2 f3) ∧ SamS (wk_c_Qa n o i))) from
  andS hT ⟨cb (ltT rfl rfl (wk_a_o0 n i n1 n2 i4 hi)), (iaddrA_ok (i := i) rfl (wk_a_o1 i i4)), hf, (iaddrA_ok (i := i) rfl (wk_a_o1 i i4)), hx, (ci (wE_i64 (addN (a := i) (b := 1) rfl rfl) (wk_a_o4 i i4) (wk_a_o5 i i4))), rfl, rfl, (samS _)⟩)
  (by kernel_rfl) Y K hK
noncomputable abbrev wkf_2_Qa (o : Int) : List (Sl × V) := [(s1, .ptr 0 0), (s2, .bool false), (s3, .int .i64 o), (s12, .int .i64 2), (s13, .int .i64 2)]
noncomputable abbrev wkf_2_Qb (a m l r e p x0 x1 x2 x3 c d0 d1 d2 d3 : Int) (f0 f1 f2 f3 : Bool) : Mem := memL 1 [(0, .cells (mad a m l 2 r e p x0 x1 x2 x3 c d0 d1 d2 d3 f0 f1 f2 f3) false)]
theorem wkf_2 (Y : Ys Prop) (a m l r e p x0 x1 x2 x3 c d0 d1 d2 d3 : Int) (f0 f1 f2 f3 : Bool) (o : Int) (o1 : 0 ≤ o) (o2 : o ≤ 10)  (T : Slots) (hT : allS T (wkf_2_Qa o)) (K : Ex → Slots → Mem → Prop) (hK : ∀ T', allS T' (wkf_2_Qa o) → K (.exit 0) T' (wkf_2_Qb a m l r e p x0 x1 x2 x3 c d0 d1 d2 d3 f0 f1 f2 f3)) :
   code pA (callD pA tb0 la2 5) Y c26l0 T (wkf_2_Qb a m l r e p x0 x1 x2 x3 c d0 d1 d2 d3 f0 f1 f2 f3) K :=
  code_of_vc (mono2) (fixS (wkf_2_Qa o) .nil)
  (show (AndS T (wkf_2_Qa o) (Ex.exit 0 = Ex.exit 0 ∧ memL 1 [(0, oC (vi a :: vi m :: vi l :: vi (Int.ofNat 2) :: vi r :: vi e :: vi p :: vi x0 :: vi x1 :: vi x2 :: vi x3 :: vi c :: vi d0 :: vi d1 :: vi d2 :: vi d3 :: vb f0 :: vb f1 :: vb f2 :: vb f3 :: []) false)] = memL 1 [(0, oC (mad a m l 2 r e p x0 x1 x2 x3 c d0 d1 d2 d3 f0 f1 f2 f3) false)] ∧ SamS (wkf_2_Qa o))) from
  andS hT ⟨rfl, rfl, (samS _)⟩)
  (by kernel_rfl) Y K hK
noncomputable abbrev wkf_3_Qa (o : Int) : List (Sl × V) := [(s1, .ptr 0 0), (s2, .bool false), (s3, .int .i64 o), (s12, .int .i64 3), (s13, .int .i64 3)]
noncomputable abbrev wkf_3_Qb (a m l r e p x0 x1 x2 x3 c d0 d1 d2 d3 : Int) (f0 f1 f2 f3 : Bool) : Mem := memL 1 [(0, .cells (mad a m l 3 r e p x0 x1 x2 x3 c d0 d1 d2 d3 f0 f1 f2 f3) false)]
theorem wkf_3 (Y : Ys Prop) (a m l r e p x0 x1 x2 x3 c d0 d1 d2 d3 : Int) (f0 f1 f2 f3 : Bool) (o : Int) (o1 : 0 ≤ o) (o2 : o ≤ 10)  (T : Slots) (hT : allS T (wkf_3_Qa o)) (K : Ex → Slots → Mem → Prop) (hK : ∀ T', allS T' (wkf_3_Qa o) → K (.exit 0) T' (wkf_3_Qb a m l r e p x0 x1 x2 x3 c d0 d1 d2 d3 f0 f1 f2 f3)) :
   code pA (callD pA tb0 la2 5) Y c26l0 T (wkf_3_Qb a m l r e p x0 x1 x2 x3 c d0 d1 d2 d3 f0 f1 f2 f3) K :=
  code_of_vc (mono2) (fixS (wkf_3_Qa o) .nil)
  (show (AndS T (wkf_3_Qa o) (Ex.exit 0 = Ex.exit 0 ∧ memL 1 [(0, oC (vi a :: vi m :: vi l :: vi (Int.ofNat 3) :: vi r :: vi e :: vi p :: vi x0 :: vi x1 :: vi x2 :: vi x3 :: vi c :: vi d0 :: vi d1 :: vi d2 :: vi d3 :: vb f0 :: vb f1 :: vb f2 :: vb f3 :: []) false)] = memL 1 [(0, oC (mad a m l 3 r e p x0 x1 x2 x3 c d0 d1 d2 d3 f0 f1 f2 f3) false)] ∧ SamS (wkf_3_Qa o))) from
  andS hT ⟨rfl, rfl, (samS _)⟩)
  (by kernel_rfl) Y K hK
noncomputable abbrev wkf_4_Qa (o : Int) : List (Sl × V) := [(s1, .ptr 0 0), (s2, .bool false), (s3, .int .i64 o), (s12, .int .i64 4), (s13, .int .i64 4)]
noncomputable abbrev wkf_4_Qb (a m l r e p x0 x1 x2 x3 c d0 d1 d2 d3 : Int) (f0 f1 f2 f3 : Bool) : Mem := memL 1 [(0, .cells (mad a m l 4 r e p x0 x1 x2 x3 c d0 d1 d2 d3 f0 f1 f2 f3) false)]
theorem wkf_4 (Y : Ys Prop) (a m l r e p x0 x1 x2 x3 c d0 d1 d2 d3 : Int) (f0 f1 f2 f3 : Bool) (o : Int) (o1 : 0 ≤ o) (o2 : o ≤ 10)  (T : Slots) (hT : allS T (wkf_4_Qa o)) (K : Ex → Slots → Mem → Prop) (hK : ∀ T', allS T' (wkf_4_Qa o) → K (.exit 0) T' (wkf_4_Qb a m l r e p x0 x1 x2 x3 c d0 d1 d2 d3 f0 f1 f2 f3)) :
   code pA (callD pA tb0 la2 5) Y c26l0 T (wkf_4_Qb a m l r e p x0 x1 x2 x3 c d0 d1 d2 d3 f0 f1 f2 f3) K :=
  code_of_vc (mono2) (fixS (wkf_4_Qa o) .nil)
  (show (AndS T (wkf_4_Qa o) (Ex.exit 0 = Ex.exit 0 ∧ memL 1 [(0, oC (vi a :: vi m :: vi l :: vi (Int.ofNat 4) :: vi r :: vi e :: vi p :: vi x0 :: vi x1 :: vi x2 :: vi x3 :: vi c :: vi d0 :: vi d1 :: vi d2 :: vi d3 :: vb f0 :: vb f1 :: vb f2 :: vb f3 :: []) false)] = memL 1 [(0, oC (mad a m l 4 r e p x0 x1 x2 x3 c d0 d1 d2 d3 f0 f1 f2 f3) false)] ∧ SamS (wkf_4_Qa o))) from
  andS hT ⟨rfl, rfl, (samS _)⟩)
  (by kernel_rfl) Y K hK
theorem wk_n (Y : Ys Prop) (a m l n r e p x0 x1 x2 x3 c d0 d1 d2 d3 : Int) (f0 f1 f2 f3 : Bool) (hr : rightS a m l n r e p x0 x1 x2 x3 c = false) (K : V → Mem → Prop) (hK : ∀ mm, K (.bool false) mm) :
   body1 pA (callD pA tb0 la2 5) Y c26 [.agg (mad a m l n r e p x0 x1 x2 x3 c d0 d1 d2 d3 f0 f1 f2 f3)] ⟨0, .leaf⟩ K :=
  walk_of_vc (mono2) (.wait 5 (.fix s7 (vb false) .nil))
  (show (vb (rightS a m l n r e p x0 x1 x2 x3 c) = vb false ∧ vb false = vb false) from
  ⟨(cb hr), (by rfl)⟩)
  (by kernel_rfl) Y K hK
noncomputable abbrev wk_2_Qa (a m l r e p x0 x1 x2 x3 c d0 d1 d2 d3 : Int) (f0 f1 f2 f3 : Bool) : Mem := memL 1 [(0, oC (mad a m l 2 r e p x0 x1 x2 x3 c d0 d1 d2 d3 f0 f1 f2 f3) false)]
noncomputable abbrev wk_2_Qb : List (Sl × V) := [(s1, V.ptr 0 0), (s2, vb false), (s3, vi 0), (s12, vi 2), (s13, vi 0)]
noncomputable abbrev wk_2_Qc (o : Int) : List (Sl × V) := [(s1, V.ptr 0 0), (s2, vb false), (s3, vi o), (s12, vi 2), (s13, vi 2)]
noncomputable abbrev wk_2_Qd (a m l r e p x0 x1 x2 x3 c d0 d1 d2 d3 : Int) (f0 f1 f2 f3 : Bool) (o : Int) : Prop := LoopOk2 (callD pA tb0 la2 5) c26l0 (Ex.exit 0) (wk_2_Qa a m l r e p x0 x1 x2 x3 c d0 d1 d2 d3 f0 f1 f2 f3) (wk_2_Qb) (wk_2_Qa a m l r e p x0 x1 x2 x3 c d0 d1 d2 d3 f0 f1 f2 f3) (wk_2_Qc o)
theorem wk_2 (Y : Ys Prop) (a m l r e p x0 x1 x2 x3 c d0 d1 d2 d3 : Int) (f0 f1 f2 f3 : Bool) (hr : rightS a m l 2 r e p x0 x1 x2 x3 c = true) (o : Int) (hl : wk_2_Qd a m l r e p x0 x1 x2 x3 c d0 d1 d2 d3 f0 f1 f2 f3 o) (K : V → Mem → Prop) (hK : ∀ mm, K (.bool (decide (o ≤ 1))) mm) :
   body1 pA (callD pA tb0 la2 5) Y c26 [.agg (mad a m l 2 r e p x0 x1 x2 x3 c d0 d1 d2 d3 f0 f1 f2 f3)] ⟨0, .leaf⟩ K :=
  walk_of_vc (mono2) (.wait 5 (.fix s7 (vb true) (.wait 8 (.inv2 (Ex.exit 0) (wk_2_Qa a m l r e p x0 x1 x2 x3 c d0 d1 d2 d3 f0 f1 f2 f3) (wk_2_Qb) (wk_2_Qa a m l r e p x0 x1 x2 x3 c d0 d1 d2 d3 f0 f1 f2 f3) (wk_2_Qc o) (.fix s1 (V.ptr 0 0) (.fix s2 (vb false) (.fix s3 (vi o) (.fix s12 (vi (Int.ofNat 2)) (.fix s13 (vi (Int.ofNat 2)) .nil)))))))))
  (show (vb (rightS a m l 2 r e p x0 x1 x2 x3 c) = vb true ∧ memL 1 [(0, oC (vi a :: vi m :: vi l :: vi (Int.ofNat 2) :: vi r :: vi e :: vi p :: vi x0 :: vi x1 :: vi x2 :: vi x3 :: vi c :: vi d0 :: vi d1 :: vi d2 :: vi d3 :: vb f0 :: vb f1 :: vb f2 :: vb f3 :: []) false)] = (wk_2_Qa a m l r e p x0 x1 x2 x3 c d0 d1 d2 d3 f0 f1 f2 f3) ∧ (EqZ [V.ptr 0 0, vb false, vi 0, vi 2, vi 0]) ∧ (wk_2_Qd a m l r e p x0 x1 x2 x3 c d0 d1 d2 d3 f0 f1 f2 f3 o) ∧ (∀ (T0 : Slots), allS T0 (wk_2_Qc o) → (Slots.get T0 s1 = V.ptr 0 0 ∧ Slots.get T0 s2 = vb false ∧ Slots.get T0 s3 = vi o ∧ Slots.get T0 s12 = vi (Int.ofNat 2) ∧ Slots.get T0 s13 = vi (Int.ofNat 2) ∧ vb (nB (ltI 1 o)) = vb (decide (o ≤ 1))))) from
  ⟨(cb hr), rfl, (eqZ _), hl, fun T0 hj0 => ⟨hj0.1, hj0.2.1, hj0.2.2.1, hj0.2.2.2.1, hj0.2.2.2.2.1, (Eq.trans (cb ((congrArg Bool.not (ltD rfl rfl)).trans (notD _))) (cb (decide_eq_decide.2 (by omega))))⟩⟩)
  (by kernel_rfl) Y K hK
noncomputable abbrev wk_3_Qa (a m l r e p x0 x1 x2 x3 c d0 d1 d2 d3 : Int) (f0 f1 f2 f3 : Bool) : Mem := memL 1 [(0, oC (mad a m l 3 r e p x0 x1 x2 x3 c d0 d1 d2 d3 f0 f1 f2 f3) false)]
noncomputable abbrev wk_3_Qb : List (Sl × V) := [(s1, V.ptr 0 0), (s2, vb false), (s3, vi 0), (s12, vi 3), (s13, vi 0)]
noncomputable abbrev wk_3_Qc (o : Int) : List (Sl × V) := [(s1, V.ptr 0 0), (s2, vb false), (s3, vi o), (s12, vi 3), (s13, vi 3)]
noncomputable abbrev wk_3_Qd (a m l r e p x0 x1 x2 x3 c d0 d1 d2 d3 : Int) (f0 f1 f2 f3 : Bool) (o : Int) : Prop := LoopOk2 (callD pA tb0 la2 5) c26l0 (Ex.exit 0) (wk_3_Qa a m l r e p x0 x1 x2 x3 c d0 d1 d2 d3 f0 f1 f2 f3) (wk_3_Qb) (wk_3_Qa a m l r e p x0 x1 x2 x3 c d0 d1 d2 d3 f0 f1 f2 f3) (wk_3_Qc o)
theorem wk_3 (Y : Ys Prop) (a m l r e p x0 x1 x2 x3 c d0 d1 d2 d3 : Int) (f0 f1 f2 f3 : Bool) (hr : rightS a m l 3 r e p x0 x1 x2 x3 c = true) (o : Int) (hl : wk_3_Qd a m l r e p x0 x1 x2 x3 c d0 d1 d2 d3 f0 f1 f2 f3 o) (K : V → Mem → Prop) (hK : ∀ mm, K (.bool (decide (o ≤ 1))) mm) :
   body1 pA (callD pA tb0 la2 5) Y c26 [.agg (mad a m l 3 r e p x0 x1 x2 x3 c d0 d1 d2 d3 f0 f1 f2 f3)] ⟨0, .leaf⟩ K :=
  walk_of_vc (mono2) (.wait 5 (.fix s7 (vb true) (.wait 8 (.inv2 (Ex.exit 0) (wk_3_Qa a m l r e p x0 x1 x2 x3 c d0 d1 d2 d3 f0 f1 f2 f3) (wk_3_Qb) (wk_3_Qa a m l r e p x0 x1 x2 x3 c d0 d1 d2 d3 f0 f1 f2 f3) (wk_3_Qc o) (.fix s1 (V.ptr 0 0) (.fix s2 (vb false) (.fix s3 (vi o) (.fix s12 (vi (Int.ofNat 3)) (.fix s13 (vi (Int.ofNat 3)) .nil)))))))))
  (show (vb (rightS a m l 3 r e p x0 x1 x2 x3 c) = vb true ∧ memL 1 [(0, oC (vi a :: vi m :: vi l :: vi (Int.ofNat 3) :: vi r :: vi e :: vi p :: vi x0 :: vi x1 :: vi x2 :: vi x3 :: vi c :: vi d0 :: vi d1 :: vi d2 :: vi d3 :: vb f0 :: vb f1 :: vb f2 :: vb f3 :: []) false)] = (wk_3_Qa a m l r e p x0 x1 x2 x3 c d0 d1 d2 d3 f0 f1 f2 f3) ∧ (EqZ [V.ptr 0 0, vb false, vi 0, vi 3, vi 0]) ∧ (wk_3_Qd a m l r e p x0 x1 x2 x3 c d0 d1 d2 d3 f0 f1 f2 f3 o) ∧ (∀ (T0 : Slots), allS T0 (wk_3_Qc o) → (Slots.get T0 s1 = V.ptr 0 0 ∧ Slots.get T0 s2 = vb false ∧ Slots.get T0 s3 = vi o ∧ Slots.get T0 s12 = vi (Int.ofNat 3) ∧ Slots.get T0 s13 = vi (Int.ofNat 3) ∧ vb (nB (ltI 1 o)) = vb (decide (o ≤ 1))))) from
  ⟨(cb hr), rfl, (eqZ _), hl, fun T0 hj0 => ⟨hj0.1, hj0.2.1, hj0.2.2.1, hj0.2.2.2.1, hj0.2.2.2.2.1, (Eq.trans (cb ((congrArg Bool.not (ltD rfl rfl)).trans (notD _))) (cb (decide_eq_decide.2 (by omega))))⟩⟩)
  (by kernel_rfl) Y K hK
noncomputable abbrev wk_4_Qa (a m l r e p x0 x1 x2 x3 c d0 d1 d2 d3 : Int) (f0 f1 f2 f3 : Bool) : Mem := memL 1 [(0, oC (mad a m l 4 r e p x0 x1 x2 x3 c d0 d1 d2 d3 f0 f1 f2 f3) false)]
noncomputable abbrev wk_4_Qb : List (Sl × V) := [(s1, V.ptr 0 0), (s2, vb false), (s3, vi 0), (s12, vi 4), (s13, vi 0)]
noncomputable abbrev wk_4_Qc (o : Int) : List (Sl × V) := [(s1, V.ptr 0 0), (s2, vb false), (s3, vi o), (s12, vi 4), (s13, vi 4)]
noncomputable abbrev wk_4_Qd (a m l r e p x0 x1 x2 x3 c d0 d1 d2 d3 : Int) (f0 f1 f2 f3 : Bool) (o : Int) : Prop := LoopOk2 (callD pA tb0 la2 5) c26l0 (Ex.exit 0) (wk_4_Qa a m l r e p x0 x1 x2 x3 c d0 d1 d2 d3 f0 f1 f2 f3) (wk_4_Qb) (wk_4_Qa a m l r e p x0 x1 x2 x3 c d0 d1 d2 d3 f0 f1 f2 f3) (wk_4_Qc o)
theorem wk_4 (Y : Ys Prop) (a m l r e p x0 x1 x2 x3 c d0 d1 d2 d3 : Int) (f0 f1 f2 f3 : Bool) (hr : rightS a m l 4 r e p x0 x1 x2 x3 c = true) (o : Int) (hl : wk_4_Qd a m l r e p x0 x1 x2 x3 c d0 d1 d2 d3 f0 f1 f2 f3 o) (K : V → Mem → Prop) (hK : ∀ mm, K (.bool (decide (o ≤ 1))) mm) :
   body1 pA (callD pA tb0 la2 5) Y c26 [.agg (mad a m l 4 r e p x0 x1 x2 x3 c d0 d1 d2 d3 f0 f1 f2 f3)] ⟨0, .leaf⟩ K :=
  walk_of_vc (mono2) (.wait 5 (.fix s7 (vb true) (.wait 8 (.inv2 (Ex.exit 0) (wk_4_Qa a m l r e p x0 x1 x2 x3 c d0 d1 d2 d3 f0 f1 f2 f3) (wk_4_Qb) (wk_4_Qa a m l r e p x0 x1 x2 x3 c d0 d1 d2 d3 f0 f1 f2 f3) (wk_4_Qc o) (.fix s1 (V.ptr 0 0) (.fix s2 (vb false) (.fix s3 (vi o) (.fix s12 (vi (Int.ofNat 4)) (.fix s13 (vi (Int.ofNat 4)) .nil)))))))))
  (show (vb (rightS a m l 4 r e p x0 x1 x2 x3 c) = vb true ∧ memL 1 [(0, oC (vi a :: vi m :: vi l :: vi (Int.ofNat 4) :: vi r :: vi e :: vi p :: vi x0 :: vi x1 :: vi x2 :: vi x3 :: vi c :: vi d0 :: vi d1 :: vi d2 :: vi d3 :: vb f0 :: vb f1 :: vb f2 :: vb f3 :: []) false)] = (wk_4_Qa a m l r e p x0 x1 x2 x3 c d0 d1 d2 d3 f0 f1 f2 f3) ∧ (EqZ [V.ptr 0 0, vb false, vi 0, vi 4, vi 0]) ∧ (wk_4_Qd a m l r e p x0 x1 x2 x3 c d0 d1 d2 d3 f0 f1 f2 f3 o) ∧ (∀ (T0 : Slots), allS T0 (wk_4_Qc o) → (Slots.get T0 s1 = V.ptr 0 0 ∧ Slots.get T0 s2 = vb false ∧ Slots.get T0 s3 = vi o ∧ Slots.get T0 s12 = vi (Int.ofNat 4) ∧ Slots.get T0 s13 = vi (Int.ofNat 4) ∧ vb (nB (ltI 1 o)) = vb (decide (o ≤ 1))))) from
  ⟨(cb hr), rfl, (eqZ _), hl, fun T0 hj0 => ⟨hj0.1, hj0.2.1, hj0.2.2.1, hj0.2.2.2.1, hj0.2.2.2.2.1, (Eq.trans (cb ((congrArg Bool.not (ltD rfl rfl)).trans (notD _))) (cb (decide_eq_decide.2 (by omega))))⟩⟩)
  (by kernel_rfl) Y K hK
end Go.Proofs.Ythmbmcpjakbepaa
