/- The document's Right by steps. No condition. -/
import Derived.Test.YthmbmcpjakbepaaSW
namespace Go.Proofs.Ythmbmcpjakbepaa
open Go Go.AM
set_option maxRecDepth 100000
set_option maxHeartbeats 0
set_option linter.unusedVariables false
abbrev clx (a m l n r e p x0 x1 x2 x3 c : Int) : List V := [.int .i64 a, .int .i64 m, .int .i64 l, .int .i64 n, .int .i64 r, .int .i64 e, .int .i64 p, .int .i64 x0, .int .i64 x1, .int .i64 x2, .int .i64 x3, .int .i64 c]
noncomputable abbrev zs_1_Qa (o : Int) (b : Bool) (i : Nat) : List (Sl × V) := [(s1, .ptr 0 0), (s2, .bool false), (s3, .int .i64 o), (s4, .bool b), (s5, .int .i64 ((i : Nat) : Int))]
noncomputable abbrev zs_1_Qb (o : Int) (b : Bool) (i : Nat) : List (Sl × V) := [(s1, .ptr 0 0), (s2, .bool false), (s3, .int .i64 o), (s4, .bool b), (s5, .int .i64 ((i + 1 : Nat) : Int))]
noncomputable abbrev zs_1_Qc (a m l n r e p x0 x1 x2 x3 c : Int) : Mem := memL 1 [(0, oC (clx a m l n r e p x0 x1 x2 x3 c) false)]
theorem zs_1_o0 (i : Nat) (i4 : i < (4 : Nat)) : (↑i : Int) < (4 : Int) := by omega
theorem zs_1_o1 (n : Int) (i : Nat) (n1 : (2 : Int) ≤ n) (n2 : n ≤ (4 : Int)) (i4 : i < (4 : Nat)) (hi : (↑i : Int) < n) : (↑i : Int) < n := by omega
theorem zs_1_o2 (i : Nat) (i4 : i < (4 : Nat)) : i < (4 : Nat) := by omega
theorem zs_1_o3 (x : Int) (h : x = (1 : Int)) : x = (1 : Int) := by omega
theorem zs_1_o4 (x : Int) (h : x = (1 : Int)) : ¬x = (3 : Int) := by omega
theorem zs_1_o5 (i : Nat) (i4 : i < (4 : Nat)) : (-9223372036854775808 : Int) ≤ (↑(i + (1 : Nat)) : Int) := by omega
theorem zs_1_o6 (i : Nat) (i4 : i < (4 : Nat)) : (↑(i + (1 : Nat)) : Int) ≤ (9223372036854775807 : Int) := by omega
theorem zs_1 (Y : Ys Prop) (a m l n r e p x0 x1 x2 x3 c : Int) (o : Int) (b : Bool) (o1 : 0 ≤ o) (o2 : o ≤ 10) (n1 : 2 ≤ n) (n2 : n ≤ 4) (i : Nat) (i4 : i < 4) (x : Int) (hx : nth (clx a m l n r e p x0 x1 x2 x3 c) (7 + i * 1) = some (.int .i64 x)) (hi : ((i : Nat) : Int) < n) (h : x = 1) (T : Slots) (hT : allS T (zs_1_Qa o b i)) (K : Ex → Slots → Mem → Prop) (hK : ∀ T', allS T' (zs_1_Qb o b i) → K (.normal) T' (memL 1 [(0, .cells (clx a m l n r e p x0 x1 x2 x3 c) false)])) :
   code pA (callD pA tb0 la1 5) Y c13l0 T (memL 1 [(0, .cells (clx a m l n r e p x0 x1 x2 x3 c) false)]) K :=
 code_of_vc (mono1) (fixS (zs_1_Qa o b i) (.wait 2 (.fix s52 (vb true) (.wait 6 (.fix s59 (vb false) (.wait 3 (.res (V.ptr 0 (7 + i * 1)) (.res (vi x) (.wait 1 (.fix s69 (vb false) (.wait 17 (.res (V.ptr 0 (7 + i * 1)) (.res (vi x) (.wait 1 (.fix s88 (vb false) (.wait 3 (.res (V.ptr 0 (7 + i * 1)) (.res (vi x) (.wait 1 (.fix s95 (vb false) (.wait 3 (.fix s54 (vi ↑(i + 1)) .nil))))))))))))))))))))))
 (show (AndS T (zs_1_Qa o b i) (vb (ltI (↑i) 4) = vb true ∧ vb (nB (ltI (↑i) n)) = vb false ∧ iaddrAV (4) 1 (V.ptr 0 7) (vi ↑i) = some (V.ptr 0 (7 + i * 1)) ∧ nth (clx a m l n r e p x0 x1 x2 x3 c) (7 + i * 1) = some (vi x) ∧ vb (nB (eqI x 1)) = vb false ∧ iaddrAV (4) 1 (V.ptr 0 7) (vi ↑i) = some (V.ptr 0 (7 + i * 1)) ∧ nth (clx a m l n r e p x0 x1 x2 x3 c) (7 + i * 1) = some (vi x) ∧ vb (nB (eqI x 1)) = vb false ∧ iaddrAV (4) 1 (V.ptr 0 7) (vi ↑i) = some (V.ptr 0 (7 + i * 1)) ∧ nth (clx a m l n r e p x0 x1 x2 x3 c) (7 + i * 1) = some (vi x) ∧ vb (eqI x 3) = vb false ∧ vi (wr IntKind.i64 (addI (↑i) 1)) = vi ↑(i + 1) ∧ Ex.normal = Ex.normal ∧ rR (zs_1_Qc a m l n r e p x0 x1 x2 x3 c) ∧ SamS (zs_1_Qb o b i))) from
 andS hT ⟨cb (ltT rfl rfl (zs_1_o0 i i4)), cb (congrArg Bool.not (ltT rfl rfl (zs_1_o1 n i n1 n2 i4 hi))), (iaddrA_ok (i := i) rfl (zs_1_o2 i i4)), hx, (cb (congrArg Bool.not (eqT rfl rfl (zs_1_o3 x h)))), (iaddrA_ok (i := i) rfl (zs_1_o2 i i4)), hx, cb (congrArg Bool.not (eqT rfl rfl (zs_1_o3 x h))), (iaddrA_ok (i := i) rfl (zs_1_o2 i i4)), hx, cb (eqF rfl rfl (zs_1_o4 x h)), (ci (wE_i64 (addN (a := i) (b := 1) rfl rfl) (zs_1_o5 i i4) (zs_1_o6 i i4))), rfl, rfl, (samS _)⟩)
 (by kernel_rfl) Y K hK
noncomputable abbrev zs_2_Qa (o : Int) (b : Bool) (i : Nat) : List (Sl × V) := [(s1, .ptr 0 0), (s2, .bool false), (s3, .int .i64 (o + 1)), (s4, .bool b), (s5, .int .i64 ((i + 1 : Nat) : Int))]
theorem zs_2_o3 (x : Int) (h : x = (2 : Int)) : ¬x = (1 : Int) := by omega
theorem zs_2_o4 (x : Int) (h : x = (2 : Int)) : x = (2 : Int) := by omega
theorem zs_2_o5 (o : Int) (o1 : (0 : Int) ≤ o) (o2 : o ≤ (10 : Int)) : (-9223372036854775808 : Int) ≤ o + (1 : Int) := by omega
theorem zs_2_o6 (o : Int) (o1 : (0 : Int) ≤ o) (o2 : o ≤ (10 : Int)) : o + (1 : Int) ≤ (9223372036854775807 : Int) := by omega
theorem zs_2_o7 (x : Int) (h : x = (2 : Int)) : ¬x = (3 : Int) := by omega
theorem zs_2 (Y : Ys Prop) (a m l n r e p x0 x1 x2 x3 c : Int) (o : Int) (b : Bool) (o1 : 0 ≤ o) (o2 : o ≤ 10) (n1 : 2 ≤ n) (n2 : n ≤ 4) (i : Nat) (i4 : i < 4) (x : Int) (hx : nth (clx a m l n r e p x0 x1 x2 x3 c) (7 + i * 1) = some (.int .i64 x)) (hi : ((i : Nat) : Int) < n) (h : x = 2) (T : Slots) (hT : allS T (zs_1_Qa o b i)) (K : Ex → Slots → Mem → Prop) (hK : ∀ T', allS T' (zs_2_Qa o b i) → K (.normal) T' (memL 1 [(0, .cells (clx a m l n r e p x0 x1 x2 x3 c) false)])) :
   code pA (callD pA tb0 la1 5) Y c13l0 T (memL 1 [(0, .cells (clx a m l n r e p x0 x1 x2 x3 c) false)]) K :=
 code_of_vc (mono1) (fixS (zs_1_Qa o b i) (.wait 2 (.fix s52 (vb true) (.wait 6 (.fix s59 (vb false) (.wait 3 (.res (V.ptr 0 (7 + i * 1)) (.res (vi x) (.wait 1 (.fix s69 (vb true) (.wait 3 (.res (V.ptr 0 (7 + i * 1)) (.res (vi x) (.wait 1 (.fix s75 (vb false) (.wait 11 (.res (V.ptr 0 (7 + i * 1)) (.res (vi x) (.wait 1 (.fix s88 (vb true) (.wait 3 (.fix s90 (vi (o + 1)) (.wait 3 (.res (V.ptr 0 (7 + i * 1)) (.res (vi x) (.wait 1 (.fix s95 (vb false) (.wait 3 (.fix s54 (vi ↑(i + 1)) .nil)))))))))))))))))))))))))))))
 (show (AndS T (zs_1_Qa o b i) (vb (ltI (↑i) 4) = vb true ∧ vb (nB (ltI (↑i) n)) = vb false ∧ iaddrAV (4) 1 (V.ptr 0 7) (vi ↑i) = some (V.ptr 0 (7 + i * 1)) ∧ nth (clx a m l n r e p x0 x1 x2 x3 c) (7 + i * 1) = some (vi x) ∧ vb (nB (eqI x 1)) = vb true ∧ iaddrAV (4) 1 (V.ptr 0 7) (vi ↑i) = some (V.ptr 0 (7 + i * 1)) ∧ nth (clx a m l n r e p x0 x1 x2 x3 c) (7 + i * 1) = some (vi x) ∧ vb (nB (eqI x 2)) = vb false ∧ iaddrAV (4) 1 (V.ptr 0 7) (vi ↑i) = some (V.ptr 0 (7 + i * 1)) ∧ nth (clx a m l n r e p x0 x1 x2 x3 c) (7 + i * 1) = some (vi x) ∧ vb (nB (eqI x 1)) = vb true ∧ vi (wr IntKind.i64 (addI o 1)) = vi (o + 1) ∧ iaddrAV (4) 1 (V.ptr 0 7) (vi ↑i) = some (V.ptr 0 (7 + i * 1)) ∧ nth (clx a m l n r e p x0 x1 x2 x3 c) (7 + i * 1) = some (vi x) ∧ vb (eqI x 3) = vb false ∧ vi (wr IntKind.i64 (addI (↑i) 1)) = vi ↑(i + 1) ∧ Ex.normal = Ex.normal ∧ rR (zs_1_Qc a m l n r e p x0 x1 x2 x3 c) ∧ SamS (zs_2_Qa o b i))) from
 andS hT ⟨cb (ltT rfl rfl (zs_1_o0 i i4)), cb (congrArg Bool.not (ltT rfl rfl (zs_1_o1 n i n1 n2 i4 hi))), (iaddrA_ok (i := i) rfl (zs_1_o2 i i4)), hx, (cb (congrArg Bool.not (eqF rfl rfl (zs_2_o3 x h)))), (iaddrA_ok (i := i) rfl (zs_1_o2 i i4)), hx, (cb (congrArg Bool.not (eqT rfl rfl (zs_2_o4 x h)))), (iaddrA_ok (i := i) rfl (zs_1_o2 i i4)), hx, cb (congrArg Bool.not (eqF rfl rfl (zs_2_o3 x h))), (ci (wE_i64 (addE rfl rfl) (zs_2_o5 o o1 o2) (zs_2_o6 o o1 o2))), (iaddrA_ok (i := i) rfl (zs_1_o2 i i4)), hx, cb (eqF rfl rfl (zs_2_o7 x h)), (ci (wE_i64 (addN (a := i) (b := 1) rfl rfl) (zs_1_o5 i i4) (zs_1_o6 i i4))), rfl, rfl, (samS _)⟩)
 (by kernel_rfl) Y K hK
noncomputable abbrev zs_3_Qa (o : Int) (i : Nat) : List (Sl × V) := [(s1, .ptr 0 0), (s2, .bool false), (s3, .int .i64 (o + 1)), (s4, .bool true), (s5, .int .i64 ((i + 1 : Nat) : Int))]
theorem zs_3_o3 (x : Int) (h : x = (3 : Int)) : ¬x = (1 : Int) := by omega
theorem zs_3_o4 (x : Int) (h : x = (3 : Int)) : ¬x = (2 : Int) := by omega
theorem zs_3_o5 (x : Int) (h : x = (3 : Int)) : x = (3 : Int) := by omega
theorem zs_3 (Y : Ys Prop) (a m l n r e p x0 x1 x2 x3 c : Int) (o : Int) (b : Bool) (o1 : 0 ≤ o) (o2 : o ≤ 10) (n1 : 2 ≤ n) (n2 : n ≤ 4) (i : Nat) (i4 : i < 4) (x : Int) (hx : nth (clx a m l n r e p x0 x1 x2 x3 c) (7 + i * 1) = some (.int .i64 x)) (hi : ((i : Nat) : Int) < n) (h : x = 3) (T : Slots) (hT : allS T (zs_1_Qa o b i)) (K : Ex → Slots → Mem → Prop) (hK : ∀ T', allS T' (zs_3_Qa o i) → K (.normal) T' (memL 1 [(0, .cells (clx a m l n r e p x0 x1 x2 x3 c) false)])) :
   code pA (callD pA tb0 la1 5) Y c13l0 T (memL 1 [(0, .cells (clx a m l n r e p x0 x1 x2 x3 c) false)]) K :=
 code_of_vc (mono1) (fixS (zs_1_Qa o b i) (.wait 2 (.fix s52 (vb true) (.wait 6 (.fix s59 (vb false) (.wait 3 (.res (V.ptr 0 (7 + i * 1)) (.res (vi x) (.wait 1 (.fix s69 (vb true) (.wait 3 (.res (V.ptr 0 (7 + i * 1)) (.res (vi x) (.wait 1 (.fix s75 (vb true) (.wait 4 (.res (V.ptr 0 (7 + i * 1)) (.res (vi x) (.wait 1 (.fix s82 (vb false) (.wait 4 (.res (V.ptr 0 (7 + i * 1)) (.res (vi x) (.wait 1 (.fix s88 (vb true) (.wait 3 (.fix s90 (vi (o + 1)) (.wait 3 (.res (V.ptr 0 (7 + i * 1)) (.res (vi x) (.wait 1 (.fix s95 (vb true) (.wait 4 (.fix s54 (vi ↑(i + 1)) .nil))))))))))))))))))))))))))))))))))
 (show (AndS T (zs_1_Qa o b i) (vb (ltI (↑i) 4) = vb true ∧ vb (nB (ltI (↑i) n)) = vb false ∧ iaddrAV (4) 1 (V.ptr 0 7) (vi ↑i) = some (V.ptr 0 (7 + i * 1)) ∧ nth (clx a m l n r e p x0 x1 x2 x3 c) (7 + i * 1) = some (vi x) ∧ vb (nB (eqI x 1)) = vb true ∧ iaddrAV (4) 1 (V.ptr 0 7) (vi ↑i) = some (V.ptr 0 (7 + i * 1)) ∧ nth (clx a m l n r e p x0 x1 x2 x3 c) (7 + i * 1) = some (vi x) ∧ vb (nB (eqI x 2)) = vb true ∧ iaddrAV (4) 1 (V.ptr 0 7) (vi ↑i) = some (V.ptr 0 (7 + i * 1)) ∧ nth (clx a m l n r e p x0 x1 x2 x3 c) (7 + i * 1) = some (vi x) ∧ vb (nB (eqI x 3)) = vb false ∧ iaddrAV (4) 1 (V.ptr 0 7) (vi ↑i) = some (V.ptr 0 (7 + i * 1)) ∧ nth (clx a m l n r e p x0 x1 x2 x3 c) (7 + i * 1) = some (vi x) ∧ vb (nB (eqI x 1)) = vb true ∧ vi (wr IntKind.i64 (addI o 1)) = vi (o + 1) ∧ iaddrAV (4) 1 (V.ptr 0 7) (vi ↑i) = some (V.ptr 0 (7 + i * 1)) ∧ nth (clx a m l n r e p x0 x1 x2 x3 c) (7 + i * 1) = some (vi x) ∧ vb (eqI x 3) = vb true ∧ vi (wr IntKind.i64 (addI (↑i) 1)) = vi ↑(i + 1) ∧ Ex.normal = Ex.normal ∧ rR (zs_1_Qc a m l n r e p x0 x1 x2 x3 c) ∧ SamS (zs_3_Qa o i))) from
 andS hT ⟨cb (ltT rfl rfl (zs_1_o0 i i4)), cb (congrArg Bool.not (ltT rfl rfl (zs_1_o1 n i n1 n2 i4 hi))), (iaddrA_ok (i := i) rfl (zs_1_o2 i i4)), hx, (cb (congrArg Bool.not (eqF rfl rfl (zs_3_o3 x h)))), (iaddrA_ok (i := i) rfl (zs_1_o2 i i4)), hx, (cb (congrArg Bool.not (eqF rfl rfl (zs_3_o4 x h)))), (iaddrA_ok (i := i) rfl (zs_1_o2 i i4)), hx, (cb (congrArg Bool.not (eqT rfl rfl (zs_3_o5 x h)))), (iaddrA_ok (i := i) rfl (zs_1_o2 i i4)), hx, cb (congrArg Bool.not (eqF rfl rfl (zs_3_o3 x h))), (ci (wE_i64 (addE rfl rfl) (zs_2_o5 o o1 o2) (zs_2_o6 o o1 o2))), (iaddrA_ok (i := i) rfl (zs_1_o2 i i4)), hx, cb (eqT rfl rfl (zs_3_o5 x h)), (ci (wE_i64 (addN (a := i) (b := 1) rfl rfl) (zs_1_o5 i i4) (zs_1_o6 i i4))), rfl, rfl, (samS _)⟩)
 (by kernel_rfl) Y K hK
theorem zs_0_o1 (n : Int) (i : Nat) (n1 : (2 : Int) ≤ n) (n2 : n ≤ (4 : Int)) (i4 : i < (4 : Nat)) (hi : n ≤ (↑i : Int)) : ¬(↑i : Int) < n := by omega
theorem zs_0_o3 (x : Int) (h : x = (0 : Int)) : x = (0 : Int) := by omega
theorem zs_0 (Y : Ys Prop) (a m l n r e p x0 x1 x2 x3 c : Int) (o : Int) (b : Bool) (o1 : 0 ≤ o) (o2 : o ≤ 10) (n1 : 2 ≤ n) (n2 : n ≤ 4) (i : Nat) (i4 : i < 4) (x : Int) (hx : nth (clx a m l n r e p x0 x1 x2 x3 c) (7 + i * 1) = some (.int .i64 x)) (hi : n ≤ ((i : Nat) : Int)) (h : x = 0) (T : Slots) (hT : allS T (zs_1_Qa o b i)) (K : Ex → Slots → Mem → Prop) (hK : ∀ T', allS T' (zs_1_Qb o b i) → K (.normal) T' (memL 1 [(0, .cells (clx a m l n r e p x0 x1 x2 x3 c) false)])) :
   code pA (callD pA tb0 la1 5) Y c13l0 T (memL 1 [(0, .cells (clx a m l n r e p x0 x1 x2 x3 c) false)]) K :=
 code_of_vc (mono1) (fixS (zs_1_Qa o b i) (.wait 2 (.fix s52 (vb true) (.wait 6 (.fix s59 (vb true) (.wait 3 (.res (V.ptr 0 (7 + i * 1)) (.res (vi x) (.wait 1 (.fix s64 (vb false) (.wait 3 (.fix s54 (vi ↑(i + 1)) .nil))))))))))))
 (show (AndS T (zs_1_Qa o b i) (vb (ltI (↑i) 4) = vb true ∧ vb (nB (ltI (↑i) n)) = vb true ∧ iaddrAV (4) 1 (V.ptr 0 7) (vi ↑i) = some (V.ptr 0 (7 + i * 1)) ∧ nth (clx a m l n r e p x0 x1 x2 x3 c) (7 + i * 1) = some (vi x) ∧ vb (nB (eqI x 0)) = vb false ∧ vi (wr IntKind.i64 (addI (↑i) 1)) = vi ↑(i + 1) ∧ Ex.normal = Ex.normal ∧ rR (zs_1_Qc a m l n r e p x0 x1 x2 x3 c) ∧ SamS (zs_1_Qb o b i))) from
 andS hT ⟨cb (ltT rfl rfl (zs_1_o0 i i4)), cb (congrArg Bool.not (ltF rfl rfl (zs_0_o1 n i n1 n2 i4 hi))), (iaddrA_ok (i := i) rfl (zs_1_o2 i i4)), hx, cb (congrArg Bool.not (eqT rfl rfl (zs_0_o3 x h))), (ci (wE_i64 (addN (a := i) (b := 1) rfl rfl) (zs_1_o5 i i4) (zs_1_o6 i i4))), rfl, rfl, (samS _)⟩)
 (by kernel_rfl) Y K hK
noncomputable abbrev zs_x_Qa : List (Sl × V) := [(s2, .bool false)]
theorem zs_x_o3 (x : Int) (u1 : x ≠ (1 : Int)) (u2 : x ≠ (2 : Int)) (u3 : x ≠ (3 : Int)) : ¬x = (1 : Int) := by omega
theorem zs_x_o4 (x : Int) (u1 : x ≠ (1 : Int)) (u2 : x ≠ (2 : Int)) (u3 : x ≠ (3 : Int)) : ¬x = (2 : Int) := by omega
theorem zs_x_o5 (x : Int) (u1 : x ≠ (1 : Int)) (u2 : x ≠ (2 : Int)) (u3 : x ≠ (3 : Int)) : ¬x = (3 : Int) := by omega
theorem zs_x (Y : Ys Prop) (a m l n r e p x0 x1 x2 x3 c : Int) (o : Int) (b : Bool) (o1 : 0 ≤ o) (o2 : o ≤ 10) (n1 : 2 ≤ n) (n2 : n ≤ 4) (i : Nat) (i4 : i < 4) (x : Int) (hx : nth (clx a m l n r e p x0 x1 x2 x3 c) (7 + i * 1) = some (.int .i64 x)) (hi : ((i : Nat) : Int) < n) (u1 : x ≠ 1) (u2 : x ≠ 2) (u3 : x ≠ 3) (T : Slots) (hT : allS T (zs_1_Qa o b i)) (K : Ex → Slots → Mem → Prop) (hK : ∀ T', allS T' (zs_x_Qa) → K (.ret) T' (memL 1 [(0, .cells (clx a m l n r e p x0 x1 x2 x3 c) false)])) :
   code pA (callD pA tb0 la1 5) Y c13l0 T (memL 1 [(0, .cells (clx a m l n r e p x0 x1 x2 x3 c) false)]) K :=
 code_of_vc (mono1) (fixS (zs_1_Qa o b i) (.wait 2 (.fix s52 (vb true) (.wait 6 (.fix s59 (vb false) (.wait 3 (.res (V.ptr 0 (7 + i * 1)) (.res (vi x) (.wait 1 (.fix s69 (vb true) (.wait 3 (.res (V.ptr 0 (7 + i * 1)) (.res (vi x) (.wait 1 (.fix s75 (vb true) (.wait 4 (.res (V.ptr 0 (7 + i * 1)) (.res (vi x) (.wait 1 (.fix s82 (vb true) .nil))))))))))))))))))))
 (show (AndS T (zs_1_Qa o b i) (vb (ltI (↑i) 4) = vb true ∧ vb (nB (ltI (↑i) n)) = vb false ∧ iaddrAV (4) 1 (V.ptr 0 7) (vi ↑i) = some (V.ptr 0 (7 + i * 1)) ∧ nth (clx a m l n r e p x0 x1 x2 x3 c) (7 + i * 1) = some (vi x) ∧ vb (nB (eqI x 1)) = vb true ∧ iaddrAV (4) 1 (V.ptr 0 7) (vi ↑i) = some (V.ptr 0 (7 + i * 1)) ∧ nth (clx a m l n r e p x0 x1 x2 x3 c) (7 + i * 1) = some (vi x) ∧ vb (nB (eqI x 2)) = vb true ∧ iaddrAV (4) 1 (V.ptr 0 7) (vi ↑i) = some (V.ptr 0 (7 + i * 1)) ∧ nth (clx a m l n r e p x0 x1 x2 x3 c) (7 + i * 1) = some (vi x) ∧ vb (nB (eqI x 3)) = vb true ∧ Ex.ret = Ex.ret ∧ rR (zs_1_Qc a m l n r e p x0 x1 x2 x3 c) ∧ SamS (zs_x_Qa))) from
 andS hT ⟨cb (ltT rfl rfl (zs_1_o0 i i4)), cb (congrArg Bool.not (ltT rfl rfl (zs_1_o1 n i n1 n2 i4 hi))), (iaddrA_ok (i := i) rfl (zs_1_o2 i i4)), hx, (cb (congrArg Bool.not (eqF rfl rfl (zs_x_o3 x u1 u2 u3)))), (iaddrA_ok (i := i) rfl (zs_1_o2 i i4)), hx, (cb (congrArg Bool.not (eqF rfl rfl (zs_x_o4 x u1 u2 u3)))), (iaddrA_ok (i := i) rfl (zs_1_o2 i i4)), hx, (cb (congrArg Bool.not (eqF rfl rfl (zs_x_o5 x u1 u2 u3)))), rfl, rfl, (samS _)⟩)
 (by kernel_rfl) Y K hK
theorem zs_y_o3 (x : Int) (h : x ≠ (0 : Int)) : ¬x = (0 : Int) := by omega
theorem zs_y (Y : Ys Prop) (a m l n r e p x0 x1 x2 x3 c : Int) (o : Int) (b : Bool) (o1 : 0 ≤ o) (o2 : o ≤ 10) (n1 : 2 ≤ n) (n2 : n ≤ 4) (i : Nat) (i4 : i < 4) (x : Int) (hx : nth (clx a m l n r e p x0 x1 x2 x3 c) (7 + i * 1) = some (.int .i64 x)) (hi : n ≤ ((i : Nat) : Int)) (h : x ≠ 0) (T : Slots) (hT : allS T (zs_1_Qa o b i)) (K : Ex → Slots → Mem → Prop) (hK : ∀ T', allS T' (zs_x_Qa) → K (.ret) T' (memL 1 [(0, .cells (clx a m l n r e p x0 x1 x2 x3 c) false)])) :
   code pA (callD pA tb0 la1 5) Y c13l0 T (memL 1 [(0, .cells (clx a m l n r e p x0 x1 x2 x3 c) false)]) K :=
 code_of_vc (mono1) (fixS (zs_1_Qa o b i) (.wait 2 (.fix s52 (vb true) (.wait 6 (.fix s59 (vb true) (.wait 3 (.res (V.ptr 0 (7 + i * 1)) (.res (vi x) (.wait 1 (.fix s64 (vb true) .nil))))))))))
 (show (AndS T (zs_1_Qa o b i) (vb (ltI (↑i) 4) = vb true ∧ vb (nB (ltI (↑i) n)) = vb true ∧ iaddrAV (4) 1 (V.ptr 0 7) (vi ↑i) = some (V.ptr 0 (7 + i * 1)) ∧ nth (clx a m l n r e p x0 x1 x2 x3 c) (7 + i * 1) = some (vi x) ∧ vb (nB (eqI x 0)) = vb true ∧ Ex.ret = Ex.ret ∧ rR (zs_1_Qc a m l n r e p x0 x1 x2 x3 c) ∧ SamS (zs_x_Qa))) from
 andS hT ⟨cb (ltT rfl rfl (zs_1_o0 i i4)), cb (congrArg Bool.not (ltF rfl rfl (zs_0_o1 n i n1 n2 i4 hi))), (iaddrA_ok (i := i) rfl (zs_1_o2 i i4)), hx, cb (congrArg Bool.not (eqF rfl rfl (zs_y_o3 x h))), rfl, rfl, (samS _)⟩)
 (by kernel_rfl) Y K hK
noncomputable abbrev zs_e_Qa (o : Int) (b : Bool) : List (Sl × V) := [(s1, .ptr 0 0), (s2, .bool false), (s3, .int .i64 o), (s4, .bool b), (s5, .int .i64 ((4 : Nat) : Int))]
theorem zs_e (Y : Ys Prop) (a m l n r e p x0 x1 x2 x3 c : Int) (o : Int) (b : Bool) (o1 : 0 ≤ o) (o2 : o ≤ 10) (n1 : 2 ≤ n) (n2 : n ≤ 4)  (T : Slots) (hT : allS T (zs_e_Qa o b)) (K : Ex → Slots → Mem → Prop) (hK : ∀ T', allS T' (zs_e_Qa o b) → K (.exit 0) T' (memL 1 [(0, .cells (clx a m l n r e p x0 x1 x2 x3 c) false)])) :
   code pA (callD pA tb0 la1 5) Y c13l0 T (memL 1 [(0, .cells (clx a m l n r e p x0 x1 x2 x3 c) false)]) K :=
 code_of_vc (mono1) (fixS (zs_e_Qa o b) .nil)
 (show (AndS T (zs_e_Qa o b) (Ex.exit 0 = Ex.exit 0 ∧ rR (zs_1_Qc a m l n r e p x0 x1 x2 x3 c) ∧ SamS (zs_e_Qa o b))) from
 andS hT ⟨rfl, rfl, (samS _)⟩)
 (by kernel_rfl) Y K hK
theorem zr_h (Y : Ys Prop) (a m l n r e p x0 x1 x2 x3 c : Int) (h : rgB l n r = true) (n1 : 2 ≤ n) (n2 : n ≤ 4) (r1 : 2 ≤ r) (r2 : r ≤ 64) (hc : ¬ (1 ≤ a ∧ a ≤ 255 ∧ 0 ≤ m ∧ m < n ∧ 1 ≤ e ∧ e ≤ 2147483647 ∧ 1 ≤ p ∧ p ≤ 2147483647)) (K : V → Mem → Prop) (hK : ∀ mm, K (.bool false) mm) :
   body1 pA (callD pA tb0 la1 5) Y c13 [sup a m l n r e p x0 x1 x2 x3 c] ⟨0, .leaf⟩ K :=
 walk_of_vc (mono1) (.wait 6 (.split s9 (decide (a < 1)) .nil (.wait 5 (.split s14 (decide (255 < a)) .nil (.wait 3 (.fix s17 (vb true) (.wait 8 (.split s25 (decide (m < 0)) .nil (.wait 7 (.split s32 (decide ¬m < n) .nil (.wait 5 (.split s36 (decide (e < 1)) .nil (.wait 5 (.split s41 (decide (2147483647 < e)) .nil (.wait 5 (.split s46 (decide (p < 1)) .nil (.wait 3 (.fix s49 (vb true) .nil))))))))))))))))))
 (show (vb (ltI a 1) = vb (decide (a < 1)) ∧ ((decide (a < 1)) = true → (vb false = vb false)) ∧ ((decide (a < 1)) = false → (vb (ltI 255 a) = vb (decide (255 < a)) ∧ ((decide (255 < a)) = true → (vb false = vb false)) ∧ ((decide (255 < a)) = false → (vb (rgB l n r) = vb true ∧ vb (ltI m 0) = vb (decide (m < 0)) ∧ ((decide (m < 0)) = true → (vb false = vb false)) ∧ ((decide (m < 0)) = false → (vb (nB (ltI m n)) = vb (decide ¬m < n) ∧ ((decide ¬m < n) = true → (vb false = vb false)) ∧ ((decide ¬m < n) = false → (vb (ltI e 1) = vb (decide (e < 1)) ∧ ((decide (e < 1)) = true → (vb false = vb false)) ∧ ((decide (e < 1)) = false → (vb (ltI 2147483647 e) = vb (decide (2147483647 < e)) ∧ ((decide (2147483647 < e)) = true → (vb false = vb false)) ∧ ((decide (2147483647 < e)) = false → (vb (ltI p 1) = vb (decide (p < 1)) ∧ ((decide (p < 1)) = true → (vb false = vb false)) ∧ ((decide (p < 1)) = false → (vb (ltI 2147483647 p) = vb true ∧ vb false = vb false))))))))))))))) from
 ⟨cb (ltD rfl rfl), (sT fun p0 => (by rfl)), (sF fun p0 => ⟨cb (ltD rfl rfl), (sT fun p1 => (by rfl)), (sF fun p1 => ⟨(cb h), cb (ltD rfl rfl), (sT fun p2 => (by rfl)), (sF fun p2 => ⟨cb ((congrArg Bool.not (ltD rfl rfl)).trans (notD _)), (sT fun p3 => (by rfl)), (sF fun p3 => ⟨cb (ltD rfl rfl), (sT fun p4 => (by rfl)), (sF fun p4 => ⟨cb (ltD rfl rfl), (sT fun p5 => (by rfl)), (sF fun p5 => ⟨cb (ltD rfl rfl), (sT fun p6 => (by rfl)), (sF fun p6 => ⟨(cb (ltT rfl rfl (by omega))), (by rfl)⟩)⟩)⟩)⟩)⟩)⟩)⟩)⟩)
 (by kernel_rfl) Y K hK
noncomputable abbrev zr_b_Qa (a m l n r e p x0 x1 x2 x3 c : Int) : List (Sl × V) := [(s0, sup a m l n r e p x0 x1 x2 x3 c)]
noncomputable abbrev zr_b_Qb : List (Sl × V) := [(s1, V.ptr 0 0), (s2, vb false), (s3, vi 0), (s4, vb false), (s5, vi ↑0)]
theorem zr_b_o0 (a : Int) (a1 : (1 : Int) ≤ a) (a2 : a ≤ (255 : Int)) : ¬a < (1 : Int) := by omega
theorem zr_b_o1 (a : Int) (a1 : (1 : Int) ≤ a) (a2 : a ≤ (255 : Int)) : ¬(255 : Int) < a := by omega
theorem zr_b_o2 (m : Int) (m1 : (0 : Int) ≤ m) : ¬m < (0 : Int) := by omega
theorem zr_b_o3 (m : Int) (n : Int) (n1 : (2 : Int) ≤ n) (n2 : n ≤ (4 : Int)) (m1 : (0 : Int) ≤ m) (m2 : m < n) : m < n := by omega
theorem zr_b_o4 (e : Int) (e1 : (1 : Int) ≤ e) (e2 : e ≤ (2147483647 : Int)) : ¬e < (1 : Int) := by omega
theorem zr_b_o5 (e : Int) (e1 : (1 : Int) ≤ e) (e2 : e ≤ (2147483647 : Int)) : ¬(2147483647 : Int) < e := by omega
theorem zr_b (Y : Ys Prop) (a m l n r e p x0 x1 x2 x3 c : Int) (h : rgB l n r = true) (n1 : 2 ≤ n) (n2 : n ≤ 4) (r1 : 2 ≤ r) (r2 : r ≤ 64) (a1 : 1 ≤ a) (a2 : a ≤ 255) (m1 : 0 ≤ m) (m2 : m < n) (e1 : 1 ≤ e) (e2 : e ≤ 2147483647) (q1 : 1 ≤ p) (q2 : p ≤ 2147483647) (H : LoopOk3 (callD pA tb0 la1 5) c13l0 .ret (memL 1 [(0, .cells (clx a m l n r e p x0 x1 x2 x3 c) false)]) [(s1, .ptr 0 0), (s2, .bool false), (s3, .int .i64 0), (s4, .bool false), (s5, .int .i64 ((0 : Nat) : Int))] (fun _ => True) (fun _ => memL 1 [(0, .cells (clx a m l n r e p x0 x1 x2 x3 c) false)]) (fun _ => [(s2, .bool false)]))  (T : Slots) (hT : allS T (zr_b_Qa a m l n r e p x0 x1 x2 x3 c)) (K : Ex → Slots → Mem → Prop) (hK : ∀ T' m', Slots.get T' s2 = .bool false → K .ret T' m') :
   code pA (callD pA tb0 la1 5) Y c13.body T (memL 0 []) K :=
 codeR_of_vc (mono1) (fixS (zr_b_Qa a m l n r e p x0 x1 x2 x3 c) (.wait 5 (.fix s8 (vb false) (.wait 4 (.fix s12 (vb false) (.wait 5 (.fix s17 (vb true) (.wait 6 (.fix s23 (vb false) (.wait 8 (.fix s31 (vb false) (.wait 5 (.fix s35 (vb false) (.wait 4 (.fix s39 (vb false) (.wait 5 (.fix s44 (vb false) (.wait 5 (.fix s49 (vb false) (.wait 5 (.inv3 (Ex.ret) (zs_1_Qc a m l n r e p x0 x1 x2 x3 c) (zr_b_Qb) (fun x => True) (fun x => (zs_1_Qc a m l n r e p x0 x1 x2 x3 c)) (fun x => [(s2, vb false)]) fun xv0 => .nil)))))))))))))))))))))
 (show (AndS T (zr_b_Qa a m l n r e p x0 x1 x2 x3 c) (vb (ltI a 1) = vb false ∧ vb (ltI 255 a) = vb false ∧ vb (rgB l n r) = vb true ∧ vb (ltI m 0) = vb false ∧ vb (nB (ltI m n)) = vb false ∧ vb (ltI e 1) = vb false ∧ vb (ltI 2147483647 e) = vb false ∧ vb (ltI p 1) = vb false ∧ vb (ltI 2147483647 p) = vb false ∧ rR (zs_1_Qc a m l n r e p x0 x1 x2 x3 c) ∧ (EqZ [V.ptr 0 0, vb false, vi 0, vb false, vi ↑0]) ∧ (LoopOk3 (callD pA tb0 la1 5) c13l0 Ex.ret (zs_1_Qc a m l n r e p x0 x1 x2 x3 c) (zr_b_Qb) (fun x => True) (fun x => (zs_1_Qc a m l n r e p x0 x1 x2 x3 c)) fun x => [(s2, vb false)]) ∧ (∀ (xv0 : EnL), True → ∀ (T0 : Slots), allS T0 ([(s2, vb false)]) → (Ex.ret = Ex.ret ∧ vb false = vb false)))) from
 andS hT ⟨(cb (ltF rfl rfl (zr_b_o0 a a1 a2))), (cb (ltF rfl rfl (zr_b_o1 a a1 a2))), (cb h), (cb (ltF rfl rfl (zr_b_o2 m m1))), (cb (congrArg Bool.not (ltT rfl rfl (zr_b_o3 m n n1 n2 m1 m2)))), (cb (ltF rfl rfl (zr_b_o4 e e1 e2))), (cb (ltF rfl rfl (zr_b_o5 e e1 e2))), (cb (ltF rfl rfl (zr_b_o4 p q1 q2))), (cb (ltF rfl rfl (zr_b_o5 p q1 q2))), rfl, (eqZ _), H, fun xv0 hq0 T0 hj0 => ⟨rfl, (by rfl)⟩⟩)
 (by kernel_rfl) Y K hK
noncomputable abbrev zr_gt_Qa (o : Int) : List (Sl × V) := [(s1, V.ptr 0 0), (s2, vb false), (s3, vi o), (s4, vb true), (s5, vi ↑4)]
noncomputable abbrev zr_gt_Qb (a m l n r e p x0 x1 x2 x3 c o : Int) : Prop := LoopOk2 (callD pA tb0 la1 5) c13l0 (Ex.exit 0) (zs_1_Qc a m l n r e p x0 x1 x2 x3 c) (zr_b_Qb) (zs_1_Qc a m l n r e p x0 x1 x2 x3 c) (zr_gt_Qa o)
theorem zr_gt (Y : Ys Prop) (a m l n r e p x0 x1 x2 x3 c : Int) (h : rgB l n r = true) (n1 : 2 ≤ n) (n2 : n ≤ 4) (r1 : 2 ≤ r) (r2 : r ≤ 64) (a1 : 1 ≤ a) (a2 : a ≤ 255) (m1 : 0 ≤ m) (m2 : m < n) (e1 : 1 ≤ e) (e2 : e ≤ 2147483647) (q1 : 1 ≤ p) (q2 : p ≤ 2147483647) (o : Int) (o1 : 0 ≤ o) (o2 : o ≤ 10) (P : Prop) [Decidable P] (hP : P ↔ (o ≤ 1 ∧ 0 ≤ c ∧ c ≤ r)) (H : zr_gt_Qb a m l n r e p x0 x1 x2 x3 c o)  (K : V → Mem → Prop) (hK : ∀ mm, K (.bool (decide P)) mm) :
   body1 pA (callD pA tb0 la1 5) Y c13 [sup a m l n r e p x0 x1 x2 x3 c] ⟨0, .leaf⟩ K :=
 walk_of_vc (mono1) (.wait 5 (.fix s8 (vb false) (.wait 4 (.fix s12 (vb false) (.wait 5 (.fix s17 (vb true) (.wait 6 (.fix s23 (vb false) (.wait 8 (.fix s31 (vb false) (.wait 5 (.fix s35 (vb false) (.wait 4 (.fix s39 (vb false) (.wait 5 (.fix s44 (vb false) (.wait 5 (.fix s49 (vb false) (.wait 5 (.inv2 (Ex.exit 0) (zs_1_Qc a m l n r e p x0 x1 x2 x3 c) (zr_b_Qb) (zs_1_Qc a m l n r e p x0 x1 x2 x3 c) (zr_gt_Qa o) (.fix s1 (V.ptr 0 0) (.fix s2 (vb false) (.fix s3 (vi o) (.fix s4 (vb true) (.fix s5 (vi (Int.ofNat 4)) (.wait 3 (.split s98 (decide (1 < o)) .nil (.wait 5 (.split s103 (decide (c < 0)) .nil (.wait 7 (.split s110 (decide (r < c)) .nil .nil)))))))))))))))))))))))))))))))
 (show (vb (ltI a 1) = vb false ∧ vb (ltI 255 a) = vb false ∧ vb (rgB l n r) = vb true ∧ vb (ltI m 0) = vb false ∧ vb (nB (ltI m n)) = vb false ∧ vb (ltI e 1) = vb false ∧ vb (ltI 2147483647 e) = vb false ∧ vb (ltI p 1) = vb false ∧ vb (ltI 2147483647 p) = vb false ∧ rR (zs_1_Qc a m l n r e p x0 x1 x2 x3 c) ∧ (EqZ [V.ptr 0 0, vb false, vi 0, vb false, vi ↑0]) ∧ (zr_gt_Qb a m l n r e p x0 x1 x2 x3 c o) ∧ (∀ (T0 : Slots), allS T0 (zr_gt_Qa o) → (Slots.get T0 s1 = V.ptr 0 0 ∧ Slots.get T0 s2 = vb false ∧ Slots.get T0 s3 = vi o ∧ Slots.get T0 s4 = vb true ∧ Slots.get T0 s5 = vi (Int.ofNat 4) ∧ vb (ltI 1 o) = vb (decide (1 < o)) ∧ ((decide (1 < o)) = true → (vb false = vb (decide P))) ∧ ((decide (1 < o)) = false → (vb (ltI c 0) = vb (decide (c < 0)) ∧ ((decide (c < 0)) = true → (vb false = vb (decide P))) ∧ ((decide (c < 0)) = false → (vb (ltI r c) = vb (decide (r < c)) ∧ ((decide (r < c)) = true → (vb false = vb (decide P))) ∧ ((decide (r < c)) = false → (vb true = vb (decide P)))))))))) from
 ⟨(cb (ltF rfl rfl (zr_b_o0 a a1 a2))), (cb (ltF rfl rfl (zr_b_o1 a a1 a2))), (cb h), (cb (ltF rfl rfl (zr_b_o2 m m1))), (cb (congrArg Bool.not (ltT rfl rfl (zr_b_o3 m n n1 n2 m1 m2)))), (cb (ltF rfl rfl (zr_b_o4 e e1 e2))), (cb (ltF rfl rfl (zr_b_o5 e e1 e2))), (cb (ltF rfl rfl (zr_b_o4 p q1 q2))), (cb (ltF rfl rfl (zr_b_o5 p q1 q2))), rfl, (eqZ _), H, fun T0 hj0 => ⟨hj0.1, hj0.2.1, hj0.2.2.1, hj0.2.2.2.1, hj0.2.2.2.2.1, cb (ltD rfl rfl), (sT fun p1 => (cb (decide_eq_false (fun h => by have := hP.1 h; omega)).symm)), (sF fun p1 => ⟨cb (ltD rfl rfl), (sT fun p2 => (cb (decide_eq_false (fun h => by have := hP.1 h; omega)).symm)), (sF fun p2 => ⟨cb (ltD rfl rfl), (sT fun p3 => (cb (decide_eq_false (fun h => by have := hP.1 h; omega)).symm)), (sF fun p3 => (cb (decide_eq_true (hP.2 (by omega))).symm))⟩)⟩)⟩⟩)
 (by kernel_rfl) Y K hK
noncomputable abbrev zr_gf_Qa (o : Int) : List (Sl × V) := [(s1, V.ptr 0 0), (s2, vb false), (s3, vi o), (s4, vb false), (s5, vi ↑4)]
noncomputable abbrev zr_gf_Qb (a m l n r e p x0 x1 x2 x3 c o : Int) : Prop := LoopOk2 (callD pA tb0 la1 5) c13l0 (Ex.exit 0) (zs_1_Qc a m l n r e p x0 x1 x2 x3 c) (zr_b_Qb) (zs_1_Qc a m l n r e p x0 x1 x2 x3 c) (zr_gf_Qa o)
theorem zr_gf (Y : Ys Prop) (a m l n r e p x0 x1 x2 x3 c : Int) (h : rgB l n r = true) (n1 : 2 ≤ n) (n2 : n ≤ 4) (r1 : 2 ≤ r) (r2 : r ≤ 64) (a1 : 1 ≤ a) (a2 : a ≤ 255) (m1 : 0 ≤ m) (m2 : m < n) (e1 : 1 ≤ e) (e2 : e ≤ 2147483647) (q1 : 1 ≤ p) (q2 : p ≤ 2147483647) (o : Int) (o1 : 0 ≤ o) (o2 : o ≤ 10) (P : Prop) [Decidable P] (hP : P ↔ (o ≤ 1 ∧ 0 ≤ c ∧ c ≤ r ∧ c = 0)) (H : zr_gf_Qb a m l n r e p x0 x1 x2 x3 c o)  (K : V → Mem → Prop) (hK : ∀ mm, K (.bool (decide P)) mm) :
   body1 pA (callD pA tb0 la1 5) Y c13 [sup a m l n r e p x0 x1 x2 x3 c] ⟨0, .leaf⟩ K :=
 walk_of_vc (mono1) (.wait 5 (.fix s8 (vb false) (.wait 4 (.fix s12 (vb false) (.wait 5 (.fix s17 (vb true) (.wait 6 (.fix s23 (vb false) (.wait 8 (.fix s31 (vb false) (.wait 5 (.fix s35 (vb false) (.wait 4 (.fix s39 (vb false) (.wait 5 (.fix s44 (vb false) (.wait 5 (.fix s49 (vb false) (.wait 5 (.inv2 (Ex.exit 0) (zs_1_Qc a m l n r e p x0 x1 x2 x3 c) (zr_b_Qb) (zs_1_Qc a m l n r e p x0 x1 x2 x3 c) (zr_gf_Qa o) (.fix s1 (V.ptr 0 0) (.fix s2 (vb false) (.fix s3 (vi o) (.fix s4 (vb false) (.fix s5 (vi (Int.ofNat 4)) (.wait 3 (.split s98 (decide (1 < o)) .nil (.wait 5 (.split s103 (decide (c < 0)) .nil (.wait 7 (.split s110 (decide (r < c)) .nil .nil)))))))))))))))))))))))))))))))
 (show (vb (ltI a 1) = vb false ∧ vb (ltI 255 a) = vb false ∧ vb (rgB l n r) = vb true ∧ vb (ltI m 0) = vb false ∧ vb (nB (ltI m n)) = vb false ∧ vb (ltI e 1) = vb false ∧ vb (ltI 2147483647 e) = vb false ∧ vb (ltI p 1) = vb false ∧ vb (ltI 2147483647 p) = vb false ∧ rR (zs_1_Qc a m l n r e p x0 x1 x2 x3 c) ∧ (EqZ [V.ptr 0 0, vb false, vi 0, vb false, vi ↑0]) ∧ (zr_gf_Qb a m l n r e p x0 x1 x2 x3 c o) ∧ (∀ (T0 : Slots), allS T0 (zr_gf_Qa o) → (Slots.get T0 s1 = V.ptr 0 0 ∧ Slots.get T0 s2 = vb false ∧ Slots.get T0 s3 = vi o ∧ Slots.get T0 s4 = vb false ∧ Slots.get T0 s5 = vi (Int.ofNat 4) ∧ vb (ltI 1 o) = vb (decide (1 < o)) ∧ ((decide (1 < o)) = true → (vb false = vb (decide P))) ∧ ((decide (1 < o)) = false → (vb (ltI c 0) = vb (decide (c < 0)) ∧ ((decide (c < 0)) = true → (vb false = vb (decide P))) ∧ ((decide (c < 0)) = false → (vb (ltI r c) = vb (decide (r < c)) ∧ ((decide (r < c)) = true → (vb false = vb (decide P))) ∧ ((decide (r < c)) = false → (vb (eqI c 0) = vb (decide P)))))))))) from
 ⟨(cb (ltF rfl rfl (zr_b_o0 a a1 a2))), (cb (ltF rfl rfl (zr_b_o1 a a1 a2))), (cb h), (cb (ltF rfl rfl (zr_b_o2 m m1))), (cb (congrArg Bool.not (ltT rfl rfl (zr_b_o3 m n n1 n2 m1 m2)))), (cb (ltF rfl rfl (zr_b_o4 e e1 e2))), (cb (ltF rfl rfl (zr_b_o5 e e1 e2))), (cb (ltF rfl rfl (zr_b_o4 p q1 q2))), (cb (ltF rfl rfl (zr_b_o5 p q1 q2))), rfl, (eqZ _), H, fun T0 hj0 => ⟨hj0.1, hj0.2.1, hj0.2.2.1, hj0.2.2.2.1, hj0.2.2.2.2.1, cb (ltD rfl rfl), (sT fun p1 => (cb (decide_eq_false (fun h => by have := hP.1 h; omega)).symm)), (sF fun p1 => ⟨cb (ltD rfl rfl), (sT fun p2 => (cb (decide_eq_false (fun h => by have := hP.1 h; omega)).symm)), (sF fun p2 => ⟨cb (ltD rfl rfl), (sT fun p3 => (cb (decide_eq_false (fun h => by have := hP.1 h; omega)).symm)), (sF fun p3 => (Eq.trans (cb (eqD rfl rfl)) (cb (decide_eq_decide.2 (by rw [hP]; omega)))))⟩)⟩)⟩⟩)
 (by kernel_rfl) Y K hK
theorem loop2r {cfy : Ys Prop → CF Prop} {b : ACode} {e : Ex} (he : e ≠ .normal) {M1 : Mem} {l1 : List (Sl × V)} (n : Nat) (hn : n < rounds) (M : Nat → Mem) (l : Nat → List (Sl × V))
  (step : ∀ (Y : Ys Prop) (i : Nat) (T : Slots), i < n → allS T (l i) → ∀ K : Ex → Slots → Mem → Prop, (∀ T', allS T' (l (i + 1)) → K .normal T' (M (i + 1))) → code pA cfy Y b T (M i) K)
  (fin : ∀ (Y : Ys Prop) (T : Slots), allS T (l n) → ∀ K : Ex → Slots → Mem → Prop, (∀ T', allS T' l1 → K e T' M1) → code pA cfy Y b T (M n) K) : LoopOk3 cfy b e (M 0) (l 0) (fun _ => True) (fun _ => M1) (fun _ => l1) := by
 intro Y T h0 K hK
 have go : ∀ (k i : Nat) (fuel : Nat), i + k = n → k < fuel → ∀ T, allS T (l i) → iter pA (code pA cfy Y b) fuel T (M i) K := by
  intro k
  induction k with
  | zero =>
   intro i fuel hi hf T hT
   obtain ⟨f, rfl⟩ : ∃ f, fuel = f + 1 := ⟨fuel - 1, by omega⟩
   simp only [iter]
   have e1 : i = n := by omega
   subst e1
   refine fin Y T hT _ fun T' h => ?_
   cases e with
   | normal => exact absurd rfl he
   | _ => exact hK [] trivial T' h
  | succ k ih =>
   intro i fuel hi hf T hT
   obtain ⟨f, rfl⟩ : ∃ f, fuel = f + 1 := ⟨fuel - 1, by omega⟩
   simp only [iter]
   exact step Y i T (by omega) hT _ fun T' h => ih (i + 1) f (by omega) (by omega) T' h
 exact go n 0 rounds (by omega) hn T h0
theorem body_retN {cf : Ys Prop → CF Prop} {Y : Ys Prop} {nt : Nat} {s : Sl} {c : ACode} {args : List V} {m : Mem} {v : V} {K : V → Mem → Prop} (hn : Nat.ble args.length nt = true)
  (h : ∀ K' : Ex → Slots → Mem → Prop, (∀ T' m', T'.get s = v → K' .ret T' m') → code pA cf Y c (fillS 0 args slots0) m K') (hK : ∀ mm, K v mm) : body1 pA cf Y ⟨nt, [.tmp s], c⟩ args m K := by
 unfold body1
 rw [hn, cond_true]
 refine h _ fun T' m' e => ?_
 simp only [result, resVs, resV, e]
 exact hK m'
def xI (x0 x1 x2 x3 : Int) : Nat → Int
 | 0 => x0
 | 1 => x1
 | 2 => x2
 | _ => x3
def gdP (n x0 x1 x2 x3 : Int) (i : Nat) : Prop := ((i : Nat) : Int) < n ∧ 1 ≤ xI x0 x1 x2 x3 i ∧ xI x0 x1 x2 x3 i ≤ 3 ∨ n ≤ ((i : Nat) : Int) ∧ xI x0 x1 x2 x3 i = 0
def ocI (n x0 x1 x2 x3 : Int) : Nat → Int
 | 0 => 0
 | i + 1 => ocI n x0 x1 x2 x3 i + (if ((i : Nat) : Int) < n ∧ xI x0 x1 x2 x3 i ≠ 1 then 1 else 0)
def rbI (n x0 x1 x2 x3 : Int) : Nat → Bool
 | 0 => false
 | i + 1 => rbI n x0 x1 x2 x3 i || decide (((i : Nat) : Int) < n ∧ xI x0 x1 x2 x3 i = 3)
theorem ocI_b (n x0 x1 x2 x3 : Int) : ∀ i, i ≤ 4 → 0 ≤ ocI n x0 x1 x2 x3 i ∧ ocI n x0 x1 x2 x3 i ≤ ((i : Nat) : Int)
 | 0, _ => ⟨Int.le_refl _, Int.le_refl _⟩
 | i + 1, h => by
  have := ocI_b n x0 x1 x2 x3 i (by omega)
  unfold ocI
  split <;> omega
theorem xI_nth (a m l n r e p x0 x1 x2 x3 c : Int) {i : Nat} (h : i < 4) : nth (clx a m l n r e p x0 x1 x2 x3 c) (7 + i * 1) = some (.int .i64 (xI x0 x1 x2 x3 i)) := by
 match i, h with
 | 0, _ => rfl
 | 1, _ => rfl
 | 2, _ => rfl
 | 3, _ => rfl
 | k + 4, h => omega
theorem zs_go (Y : Ys Prop) (a m l n r e p x0 x1 x2 x3 c : Int) (n1 : 2 ≤ n) (n2 : n ≤ 4) (i : Nat) (i4 : i < 4) (hg : gdP n x0 x1 x2 x3 i) (T : Slots) (hT : allS T [(s1, .ptr 0 0), (s2, .bool false), (s3, .int .i64 (ocI n x0 x1 x2 x3 i)), (s4, .bool (rbI n x0 x1 x2 x3 i)), (s5, .int .i64 ((i : Nat) : Int))]) (K : Ex → Slots → Mem → Prop) (hK : ∀ T', allS T' [(s1, .ptr 0 0), (s2, .bool false), (s3, .int .i64 (ocI n x0 x1 x2 x3 (i + 1))), (s4, .bool (rbI n x0 x1 x2 x3 (i + 1))), (s5, .int .i64 (((i + 1) : Nat) : Int))] → K .normal T' (memL 1 [(0, .cells (clx a m l n r e p x0 x1 x2 x3 c) false)])) : code pA (callD pA tb0 la1 5) Y c13l0 T (memL 1 [(0, .cells (clx a m l n r e p x0 x1 x2 x3 c) false)]) K := by
 have hb := ocI_b n x0 x1 x2 x3 i (by omega)
 have hx := xI_nth a m l n r e p x0 x1 x2 x3 c i4
 unfold gdP at hg
 rw [ocI, rbI] at hK
 generalize xI x0 x1 x2 x3 i = x at *
 generalize ocI n x0 x1 x2 x3 i = o at *
 generalize rbI n x0 x1 x2 x3 i = b at *
 by_cases hi : ((i : Nat) : Int) < n
 ·have h3 : x = 1 ∨ x = 2 ∨ x = 3 := by omega
  rcases h3 with h | h | h
  ·rw [if_neg (fun e => e.2 h), Int.add_zero, decide_eq_false (fun e => by have := e.2; omega), Bool.or_false] at hK
   exact zs_1 Y a m l n r e p x0 x1 x2 x3 c o b hb.1 (by omega) n1 n2 i i4 x hx hi h T hT K hK
  ·rw [if_pos ⟨hi, by omega⟩, decide_eq_false (fun e => by have := e.2; omega), Bool.or_false] at hK
   exact zs_2 Y a m l n r e p x0 x1 x2 x3 c o b hb.1 (by omega) n1 n2 i i4 x hx hi h T hT K hK
  ·rw [if_pos ⟨hi, by omega⟩, decide_eq_true ⟨hi, h⟩, Bool.or_true] at hK
   exact zs_3 Y a m l n r e p x0 x1 x2 x3 c o b hb.1 (by omega) n1 n2 i i4 x hx hi h T hT K hK
 ·rw [if_neg (fun e => hi e.1), Int.add_zero, decide_eq_false (fun e => hi e.1), Bool.or_false] at hK
  exact zs_0 Y a m l n r e p x0 x1 x2 x3 c o b hb.1 (by omega) n1 n2 i i4 x hx (by omega) (by omega) T hT K hK
theorem zs_bad (Y : Ys Prop) (a m l n r e p x0 x1 x2 x3 c : Int) (n1 : 2 ≤ n) (n2 : n ≤ 4) (i : Nat) (i4 : i < 4) (hg : ¬ gdP n x0 x1 x2 x3 i) (T : Slots) (hT : allS T [(s1, .ptr 0 0), (s2, .bool false), (s3, .int .i64 (ocI n x0 x1 x2 x3 i)), (s4, .bool (rbI n x0 x1 x2 x3 i)), (s5, .int .i64 ((i : Nat) : Int))]) (K : Ex → Slots → Mem → Prop) (hK : ∀ T', allS T' [(s2, .bool false)] → K .ret T' (memL 1 [(0, .cells (clx a m l n r e p x0 x1 x2 x3 c) false)])) : code pA (callD pA tb0 la1 5) Y c13l0 T (memL 1 [(0, .cells (clx a m l n r e p x0 x1 x2 x3 c) false)]) K := by
 have hb := ocI_b n x0 x1 x2 x3 i (by omega)
 have hx := xI_nth a m l n r e p x0 x1 x2 x3 c i4
 unfold gdP at hg
 generalize xI x0 x1 x2 x3 i = x at *
 by_cases hi : ((i : Nat) : Int) < n
 ·exact zs_x Y a m l n r e p x0 x1 x2 x3 c _ _ hb.1 (by omega) n1 n2 i i4 x hx hi (by omega) (by omega) (by omega) T hT K hK
 ·exact zs_y Y a m l n r e p x0 x1 x2 x3 c _ _ hb.1 (by omega) n1 n2 i i4 x hx (by omega) (by omega) T hT K hK
theorem zs_loop (a m l n r e p x0 x1 x2 x3 c : Int) (n1 : 2 ≤ n) (n2 : n ≤ 4) (hg : ∀ i, i < 4 → gdP n x0 x1 x2 x3 i) : LoopOk2 (callD pA tb0 la1 5) c13l0 (.exit 0) (memL 1 [(0, .cells (clx a m l n r e p x0 x1 x2 x3 c) false)]) [(s1, .ptr 0 0), (s2, .bool false), (s3, .int .i64 0), (s4, .bool false), (s5, .int .i64 ((0 : Nat) : Int))] (memL 1 [(0, .cells (clx a m l n r e p x0 x1 x2 x3 c) false)]) [(s1, .ptr 0 0), (s2, .bool false), (s3, .int .i64 (ocI n x0 x1 x2 x3 4)), (s4, .bool (rbI n x0 x1 x2 x3 4)), (s5, .int .i64 ((4 : Nat) : Int))] :=
 loop2 4 (by decide) (fun _ => memL 1 [(0, .cells (clx a m l n r e p x0 x1 x2 x3 c) false)]) (fun i => [(s1, .ptr 0 0), (s2, .bool false), (s3, .int .i64 (ocI n x0 x1 x2 x3 i)), (s4, .bool (rbI n x0 x1 x2 x3 i)), (s5, .int .i64 ((i : Nat) : Int))]) (fun Y i T hi hT K hK => zs_go Y a m l n r e p x0 x1 x2 x3 c n1 n2 i hi (hg i hi) T hT K hK)
  (fun Y T hT K hK => zs_e Y a m l n r e p x0 x1 x2 x3 c _ _ (ocI_b n x0 x1 x2 x3 4 (by omega)).1 (by have := (ocI_b n x0 x1 x2 x3 4 (by omega)).2; omega) n1 n2 T hT K hK)
theorem zs_loopB (a m l n r e p x0 x1 x2 x3 c : Int) (n1 : 2 ≤ n) (n2 : n ≤ 4) {k : Nat} (hk : k < 4) (hg : ∀ i, i < k → gdP n x0 x1 x2 x3 i) (hb : ¬ gdP n x0 x1 x2 x3 k) : LoopOk3 (callD pA tb0 la1 5) c13l0 .ret (memL 1 [(0, .cells (clx a m l n r e p x0 x1 x2 x3 c) false)]) [(s1, .ptr 0 0), (s2, .bool false), (s3, .int .i64 0), (s4, .bool false), (s5, .int .i64 ((0 : Nat) : Int))] (fun _ => True) (fun _ => memL 1 [(0, .cells (clx a m l n r e p x0 x1 x2 x3 c) false)]) (fun _ => [(s2, .bool false)]) :=
 loop2r (by intro h; cases h) k (Nat.lt_of_lt_of_le (show k < 5 by omega) (by decide)) (fun _ => memL 1 [(0, .cells (clx a m l n r e p x0 x1 x2 x3 c) false)]) (fun i => [(s1, .ptr 0 0), (s2, .bool false), (s3, .int .i64 (ocI n x0 x1 x2 x3 i)), (s4, .bool (rbI n x0 x1 x2 x3 i)), (s5, .int .i64 ((i : Nat) : Int))]) (fun Y i T hi hT K hK => zs_go Y a m l n r e p x0 x1 x2 x3 c n1 n2 i (by omega) (hg i hi) T hT K hK)
  (fun Y T hT K hK => zs_bad Y a m l n r e p x0 x1 x2 x3 c n1 n2 k hk hb T hT K hK)
theorem first_bad {p : Nat → Prop} : ∀ N, (∀ i, i < N → p i) ∨ ∃ k, k < N ∧ (∀ i, i < k → p i) ∧ ¬ p k
 | 0 => .inl fun _ h => absurd h (Nat.not_lt_zero _)
 | N + 1 => by
  rcases first_bad (p := p) N with h | ⟨k, h1, h2, h3⟩
  ·by_cases e : p N
   ·refine .inl fun i hi => ?_
    by_cases e2 : i < N
    ·exact h i e2
    ·obtain rfl : i = N := by omega
     exact e
   ·exact .inr ⟨N, by omega, h, e⟩
  ·exact .inr ⟨k, by omega, h2, h3⟩
theorem zi_v {n x t : Int} {i : Nat} (f : ((i : Nat) : Int) < n ∧ x ≠ 1 ∧ t = 1 ∨ ¬ (((i : Nat) : Int) < n ∧ x ≠ 1) ∧ t = 0) (g : ((i : Nat) : Int) < n ∧ 1 ≤ x ∧ x ≤ 3 ∨ n ≤ ((i : Nat) : Int) ∧ x = 0) : (2 ≤ x ↔ t = 1) ∧ (t = 0 ∨ t = 1) ∧ (x = 3 → ((i : Nat) : Int) < n) := by omega
theorem zi_pair {x y t u : Int} (hx : 2 ≤ x ↔ t = 1) (hy : 2 ≤ y ↔ u = 1) (ht : t = 0 ∨ t = 1) (hu : u = 0 ∨ u = 1) : (x ≤ 1 ∨ y ≤ 1) ↔ t + u ≤ 1 := by omega
theorem zi_r {n x : Int} {i : Nat} (g : ((i : Nat) : Int) < n ∧ 1 ≤ x ∧ x ≤ 3 ∨ n ≤ ((i : Nat) : Int) ∧ x = 0) : (n ≤ ((i : Nat) : Int) ∧ x = 0 ∨ ((i : Nat) : Int) + 1 ≤ n ∧ 1 ≤ x ∧ x ≤ 3) := by omega
theorem zi_lo {n x : Int} {i : Nat} (hi : ((i : Nat) : Int) < n) (g : ((i : Nat) : Int) < n ∧ 1 ≤ x ∧ x ≤ 3 ∨ n ≤ ((i : Nat) : Int) ∧ x = 0) : 1 ≤ x ∧ x ≤ 3 := by omega
theorem zr_iff (a m l n r e p x0 x1 x2 x3 c : Int) (hr : rgP l n r) (hh : 1 ≤ a ∧ a ≤ 255 ∧ 0 ≤ m ∧ m < n ∧ 1 ≤ e ∧ e ≤ 2147483647 ∧ 1 ≤ p ∧ p ≤ 2147483647) (hg : ∀ i, i < 4 → gdP n x0 x1 x2 x3 i) : rightP a m l n r e p x0 x1 x2 x3 c ↔ (ocI n x0 x1 x2 x3 4 ≤ 1 ∧ 0 ≤ c ∧ c ≤ r ∧ (rbI n x0 x1 x2 x3 4 = true ∨ c = 0)) := by
 have n2 : 2 ≤ n := by unfold rgP at hr; omega
 have g0 := hg 0 (by decide); have g1 := hg 1 (by decide); have g2 := hg 2 (by decide); have g3 := hg 3 (by decide)
 simp only [gdP, xI] at g0 g1 g2 g3
 have one : ∀ (i : Nat) (x : Int), ∃ t : Int, (if ((i : Nat) : Int) < n ∧ x ≠ 1 then (1 : Int) else 0) = t ∧ (((i : Nat) : Int) < n ∧ x ≠ 1 ∧ t = 1 ∨ ¬ (((i : Nat) : Int) < n ∧ x ≠ 1) ∧ t = 0) := by
  intro i x
  by_cases e : ((i : Nat) : Int) < n ∧ x ≠ 1
  ·exact ⟨1, if_pos e, .inl ⟨e.1, e.2, rfl⟩⟩
  ·exact ⟨0, if_neg e, .inr ⟨e, rfl⟩⟩
 obtain ⟨t0, e0, f0⟩ := one 0 x0
 obtain ⟨t1, e1, f1⟩ := one 1 x1
 obtain ⟨t2, e2, f2⟩ := one 2 x2
 obtain ⟨t3, e3, f3⟩ := one 3 x3
 obtain ⟨v0, b0, w0⟩ := zi_v f0 g0
 obtain ⟨v1, b1, w1⟩ := zi_v f1 g1
 obtain ⟨v2, b2, w2⟩ := zi_v f2 g2
 obtain ⟨v3, b3, w3⟩ := zi_v f3 g3
 have hrb : rbI n x0 x1 x2 x3 4 = true ↔ (((0 : Nat) : Int) < n ∧ x0 = 3 ∨ ((1 : Nat) : Int) < n ∧ x1 = 3 ∨ ((2 : Nat) : Int) < n ∧ x2 = 3 ∨ ((3 : Nat) : Int) < n ∧ x3 = 3) := by
  simp only [rbI, xI, Bool.or_eq_true, decide_eq_true_eq, Bool.false_eq_true, false_or, or_assoc]
 have hoc : ocI n x0 x1 x2 x3 4 = t0 + t1 + t2 + t3 := by simp only [ocI, xI, e0, e1, e2, e3, Int.zero_add]
 have r0 := zi_lo (by omega) g0; have r1 := zi_lo (by omega) g1; have r2 := zi_r g2; have r3 := zi_r g3
 rw [hrb, hoc]
 unfold rightP
 rw [zi_pair v0 v1 b0 b1, zi_pair v0 v2 b0 b2, zi_pair v0 v3 b0 b3, zi_pair v1 v2 b1 b2, zi_pair v1 v3 b1 b3, zi_pair v2 v3 b2 b3]
 clear v0 v1 v2 v3 f0 f1 f2 f3 g0 g1 g2 g3 e0 e1 e2 e3 hrb hoc one hg
 constructor
 ·rintro ⟨_, _, _, _, _, _, _, _, _, _, _, _, _, _, _, k5, k6, k7, k8, k9, k10, k12, k13, k14⟩
  refine ⟨by clear w0 w1 w2 w3 k14 r2 r3; omega, k12, k13, ?_⟩
  rcases k14 with h | h | h | h | h
  ·exact .inl (.inl ⟨w0 h, h⟩)
  ·exact .inl (.inr (.inl ⟨w1 h, h⟩))
  ·exact .inl (.inr (.inr (.inl ⟨w2 h, h⟩)))
  ·exact .inl (.inr (.inr (.inr ⟨w3 h, h⟩)))
  ·exact .inr h
 ·rintro ⟨h1, h2, h3, h4⟩
  obtain ⟨q1, q2, q3, q4, q5, q6, q7, q8⟩ := hh
  have h5 : x0 = 3 ∨ x1 = 3 ∨ x2 = 3 ∨ x3 = 3 ∨ c = 0 := by
   rcases h4 with (⟨_, h⟩ | ⟨_, h⟩ | ⟨_, h⟩ | ⟨_, h⟩) | h
   ·exact .inl h
   ·exact .inr (.inl h)
   ·exact .inr (.inr (.inl h))
   ·exact .inr (.inr (.inr (.inl h)))
   ·exact .inr (.inr (.inr (.inr h)))
  clear h4 w0 w1 w2 w3
  exact ⟨q1, q2, hr, q3, q4, q5, q6, q7, q8, r0.1, r0.2, r1.1, r1.2, r2, r3, by omega, by omega, by omega, by omega, by omega, by omega, h2, h3, h5⟩
theorem zright_walk (Y : Ys Prop) (a m l n r e p x0 x1 x2 x3 c : Int) (K : V → Mem → Prop) (hK : ∀ mm, K (.bool (rightS a m l n r e p x0 x1 x2 x3 c)) mm) : body1 pA (callD pA tb0 la1 5) Y c13 [sup a m l n r e p x0 x1 x2 x3 c] ⟨0, .leaf⟩ K := by
 by_cases hr : rgP l n r
 ·have hb : rgB l n r = true := decide_eq_true hr
  have hr' := hr
  unfold rgP at hr'
  have n1 : 2 ≤ n := by omega
  have n2 : n ≤ 4 := by omega
  rw [rightS_eq] at hK
  by_cases hc : 1 ≤ a ∧ a ≤ 255 ∧ 0 ≤ m ∧ m < n ∧ 1 ≤ e ∧ e ≤ 2147483647 ∧ 1 ≤ p ∧ p ≤ 2147483647
  ·obtain ⟨q1, q2, q3, q4, q5, q6, q7, q8⟩ := hc
   rcases first_bad (p := gdP n x0 x1 x2 x3) 4 with hg | ⟨k, hk, hg, hbad⟩
   ·have hi := zr_iff a m l n r e p x0 x1 x2 x3 c hr ⟨q1, q2, q3, q4, q5, q6, q7, q8⟩ hg
    have hl := zs_loop a m l n r e p x0 x1 x2 x3 c n1 n2 hg
    have hob := ocI_b n x0 x1 x2 x3 4 (by omega)
    generalize rbI n x0 x1 x2 x3 4 = b at hi hl
    generalize ocI n x0 x1 x2 x3 4 = o at hi hl hob
    cases b with
    | true => exact zr_gt Y a m l n r e p x0 x1 x2 x3 c hb n1 n2 hr'.2.1 hr'.2.2.1 q1 q2 q3 q4 q5 q6 q7 q8 o hob.1 (by omega) (rightP a m l n r e p x0 x1 x2 x3 c) (by simpa using hi) hl K hK
    | false => exact zr_gf Y a m l n r e p x0 x1 x2 x3 c hb n1 n2 hr'.2.1 hr'.2.2.1 q1 q2 q3 q4 q5 q6 q7 q8 o hob.1 (by omega) (rightP a m l n r e p x0 x1 x2 x3 c) (by simpa using hi) hl K hK
   ·have hn : ¬ rightP a m l n r e p x0 x1 x2 x3 c := fun h => by
     refine hbad ?_
     unfold rightP at h
     unfold gdP
     match k, hk with
     | 0, _ => simp only [xI]; omega
     | 1, _ => simp only [xI]; omega
     | 2, _ => simp only [xI]; omega
     | 3, _ => simp only [xI]; omega
     | k + 4, h => omega
    rw [decide_eq_false hn] at hK
    exact body_retN rfl (fun K' hK' => zr_b Y a m l n r e p x0 x1 x2 x3 c hb n1 n2 hr'.2.1 hr'.2.2.1 q1 q2 q3 q4 q5 q6 q7 q8 (zs_loopB a m l n r e p x0 x1 x2 x3 c n1 n2 hk hg hbad) _ ⟨rfl, trivial⟩ K' hK') hK
  ·have hn : ¬ rightP a m l n r e p x0 x1 x2 x3 c := fun h => hc (by unfold rightP at h; omega)
   rw [decide_eq_false hn] at hK
   exact zr_h Y a m l n r e p x0 x1 x2 x3 c hb n1 n2 hr'.2.1 hr'.2.2.1 hc K hK
 ·exact zright_n Y a m l n r e p x0 x1 x2 x3 c (decide_eq_false hr) hr K hK
end Go.Proofs.Ythmbmcpjakbepaa
