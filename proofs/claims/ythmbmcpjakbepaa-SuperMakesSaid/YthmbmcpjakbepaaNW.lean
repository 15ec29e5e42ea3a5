/- The document's Make: what it calls, by script. No condition. -/
import Derived.Test.YthmbmcpjakbepaaMQ
namespace Go.Proofs.Ythmbmcpjakbepaa
open Go Go.AM
set_option maxRecDepth 100000
set_option maxHeartbeats 0
set_option linter.unusedVariables false
def cF : List Sp → List V
  | [] => []
  | s :: l => s.cs ++ cF l
theorem rens_cF (σ : Nat → Nat) : ∀ l : List Sp, rens σ (cF l) = cF l
  | [] => rfl
  | s :: l => by have := rens_cF σ l; simp only [cF, rens, V.ren, this, List.cons_append, List.nil_append]
theorem bels_cF (p : Nat → Bool) : ∀ l : List Sp, bels p (cF l) = true
  | [] => rfl
  | s :: l => by have := bels_cF p l; simp only [cF, bels, V.bel, this, Bool.and_self, List.cons_append, List.nil_append]
def R48 : List V → Option V
  | [.agg [.int .i64 a, .int .i64 m, .int .i64 l, .int .i64 n, .int .i64 r, .int .i64 e, .int .i64 p, .int .i64 x0, .int .i64 x1, .int .i64 x2, .int .i64 x3, .int .i64 c]] => if n = 2 ∨ n = 3 ∨ n = 4 then some (.bool (!aliveB ⟨a, m, l, n, r, e, p, x0, x1, x2, x3, c⟩)) else none
  | _ => none
inductive S47 : Con → Prop
  | mk (l : List Sp) (n : Nat) (hl : l.length = n) (hn : n ≤ 100) (s : Sp) : S47 ⟨[.slice 0 0 n n 12, s.v], [.cells (cF l) false], .int .i64 ((cnt (says s) l : Nat) : Int), [.cells (cF l) false], []⟩
def aheadB (l : List Sp) (a b : Sp) : Bool := if cnt (says a) l = cnt (says b) l then !aliveB a && aliveB b else decide (cnt (says b) l < cnt (says a) l)
inductive S40 : Con → Prop
  | mk (l : List Sp) (n : Nat) (hl : l.length = n) (hn : n ≤ 100) (a b : Sp) (ha : a.n = 2 ∨ a.n = 3 ∨ a.n = 4) (hb : b.n = 2 ∨ b.n = 3 ∨ b.n = 4) : S40 ⟨[.slice 0 0 n n 12, a.v, b.v], [.cells (cF l) false], .bool (aheadB l a b), [.cells (cF l) false], []⟩
abbrev la40 : CF Prop := lastC 47 S47 (lastFn 48 R48 la0)
theorem mono40 : MonoCF la40 := mono_c (mono_fn mono_false)
theorem il_2_0_o0 (x0 : Int) (u0 : x0 ≠ (1 : Int)) : ¬x0 = (1 : Int) := by omega
theorem il_2_0 (Y : Ys Prop) (a m l r e p x0 x1 x2 x3 c : Int) (u0 : x0 ≠ 1) (K : V → Mem → Prop) (hK : ∀ mm, K (.bool true) mm) :
   body1 pA (callD pA tb0 la0 5) Y c48 [sup a m l 2 r e p x0 x1 x2 x3 c] ⟨0, .leaf⟩ K :=
  walk_of_vc (mono_false) (.wait 15 (.fix s15 (vb true) .nil))
  (show (vb (nB (eqI x0 1)) = vb true ∧ vb true = vb true) from
  ⟨cb (congrArg Bool.not (eqF rfl rfl (il_2_0_o0 x0 u0))), (by rfl)⟩)
  (by kernel_rfl) Y K hK
theorem il_2_1_o0 (x0 : Int) (u0 : x0 = (1 : Int)) : x0 = (1 : Int) := by omega
theorem il_2_1 (Y : Ys Prop) (a m l r e p x0 x1 x2 x3 c : Int) (u0 : x0 = 1) (u1 : x1 ≠ 1) (K : V → Mem → Prop) (hK : ∀ mm, K (.bool true) mm) :
   body1 pA (callD pA tb0 la0 5) Y c48 [sup a m l 2 r e p x0 x1 x2 x3 c] ⟨0, .leaf⟩ K :=
  walk_of_vc (mono_false) (.wait 15 (.fix s15 (vb false) (.wait 15 (.fix s15 (vb true) .nil))))
  (show (vb (nB (eqI x0 1)) = vb false ∧ vb (nB (eqI x1 1)) = vb true ∧ vb true = vb true) from
  ⟨cb (congrArg Bool.not (eqT rfl rfl (il_2_1_o0 x0 u0))), cb (congrArg Bool.not (eqF rfl rfl (il_2_0_o0 x1 u1))), (by rfl)⟩)
  (by kernel_rfl) Y K hK
theorem il_2_2 (Y : Ys Prop) (a m l r e p x0 x1 x2 x3 c : Int) (u0 : x0 = 1) (u1 : x1 = 1) (K : V → Mem → Prop) (hK : ∀ mm, K (.bool false) mm) :
   body1 pA (callD pA tb0 la0 5) Y c48 [sup a m l 2 r e p x0 x1 x2 x3 c] ⟨0, .leaf⟩ K :=
  walk_of_vc (mono_false) (.wait 15 (.fix s15 (vb false) (.wait 15 (.fix s15 (vb false) .nil))))
  (show (vb (nB (eqI x0 1)) = vb false ∧ vb (nB (eqI x1 1)) = vb false ∧ vb false = vb false) from
  ⟨cb (congrArg Bool.not (eqT rfl rfl (il_2_1_o0 x0 u0))), cb (congrArg Bool.not (eqT rfl rfl (il_2_1_o0 x1 u1))), (by rfl)⟩)
  (by kernel_rfl) Y K hK
theorem il_3_0 (Y : Ys Prop) (a m l r e p x0 x1 x2 x3 c : Int) (u0 : x0 ≠ 1) (K : V → Mem → Prop) (hK : ∀ mm, K (.bool true) mm) :
   body1 pA (callD pA tb0 la0 5) Y c48 [sup a m l 3 r e p x0 x1 x2 x3 c] ⟨0, .leaf⟩ K :=
  walk_of_vc (mono_false) (.wait 15 (.fix s15 (vb true) .nil))
  (show (vb (nB (eqI x0 1)) = vb true ∧ vb true = vb true) from
  ⟨cb (congrArg Bool.not (eqF rfl rfl (il_2_0_o0 x0 u0))), (by rfl)⟩)
  (by kernel_rfl) Y K hK
theorem il_3_1 (Y : Ys Prop) (a m l r e p x0 x1 x2 x3 c : Int) (u0 : x0 = 1) (u1 : x1 ≠ 1) (K : V → Mem → Prop) (hK : ∀ mm, K (.bool true) mm) :
   body1 pA (callD pA tb0 la0 5) Y c48 [sup a m l 3 r e p x0 x1 x2 x3 c] ⟨0, .leaf⟩ K :=
  walk_of_vc (mono_false) (.wait 15 (.fix s15 (vb false) (.wait 15 (.fix s15 (vb true) .nil))))
  (show (vb (nB (eqI x0 1)) = vb false ∧ vb (nB (eqI x1 1)) = vb true ∧ vb true = vb true) from
  ⟨cb (congrArg Bool.not (eqT rfl rfl (il_2_1_o0 x0 u0))), cb (congrArg Bool.not (eqF rfl rfl (il_2_0_o0 x1 u1))), (by rfl)⟩)
  (by kernel_rfl) Y K hK
theorem il_3_2 (Y : Ys Prop) (a m l r e p x0 x1 x2 x3 c : Int) (u0 : x0 = 1) (u1 : x1 = 1) (u2 : x2 ≠ 1) (K : V → Mem → Prop) (hK : ∀ mm, K (.bool true) mm) :
   body1 pA (callD pA tb0 la0 5) Y c48 [sup a m l 3 r e p x0 x1 x2 x3 c] ⟨0, .leaf⟩ K :=
  walk_of_vc (mono_false) (.wait 15 (.fix s15 (vb false) (.wait 15 (.fix s15 (vb false) (.wait 15 (.fix s15 (vb true) .nil))))))
  (show (vb (nB (eqI x0 1)) = vb false ∧ vb (nB (eqI x1 1)) = vb false ∧ vb (nB (eqI x2 1)) = vb true ∧ vb true = vb true) from
  ⟨cb (congrArg Bool.not (eqT rfl rfl (il_2_1_o0 x0 u0))), cb (congrArg Bool.not (eqT rfl rfl (il_2_1_o0 x1 u1))), cb (congrArg Bool.not (eqF rfl rfl (il_2_0_o0 x2 u2))), (by rfl)⟩)
  (by kernel_rfl) Y K hK
theorem il_3_3 (Y : Ys Prop) (a m l r e p x0 x1 x2 x3 c : Int) (u0 : x0 = 1) (u1 : x1 = 1) (u2 : x2 = 1) (K : V → Mem → Prop) (hK : ∀ mm, K (.bool false) mm) :
   body1 pA (callD pA tb0 la0 5) Y c48 [sup a m l 3 r e p x0 x1 x2 x3 c] ⟨0, .leaf⟩ K :=
  walk_of_vc (mono_false) (.wait 15 (.fix s15 (vb false) (.wait 15 (.fix s15 (vb false) (.wait 15 (.fix s15 (vb false) .nil))))))
  (show (vb (nB (eqI x0 1)) = vb false ∧ vb (nB (eqI x1 1)) = vb false ∧ vb (nB (eqI x2 1)) = vb false ∧ vb false = vb false) from
  ⟨cb (congrArg Bool.not (eqT rfl rfl (il_2_1_o0 x0 u0))), cb (congrArg Bool.not (eqT rfl rfl (il_2_1_o0 x1 u1))), cb (congrArg Bool.not (eqT rfl rfl (il_2_1_o0 x2 u2))), (by rfl)⟩)
  (by kernel_rfl) Y K hK
theorem il_4_0 (Y : Ys Prop) (a m l r e p x0 x1 x2 x3 c : Int) (u0 : x0 ≠ 1) (K : V → Mem → Prop) (hK : ∀ mm, K (.bool true) mm) :
   body1 pA (callD pA tb0 la0 5) Y c48 [sup a m l 4 r e p x0 x1 x2 x3 c] ⟨0, .leaf⟩ K :=
  walk_of_vc (mono_false) (.wait 15 (.fix s15 (vb true) .nil))
  (show (vb (nB (eqI x0 1)) = vb true ∧ vb true = vb true) from
  ⟨cb (congrArg Bool.not (eqF rfl rfl (il_2_0_o0 x0 u0))), (by rfl)⟩)
  (by kernel_rfl) Y K hK
theorem il_4_1 (Y : Ys Prop) (a m l r e p x0 x1 x2 x3 c : Int) (u0 : x0 = 1) (u1 : x1 ≠ 1) (K : V → Mem → Prop) (hK : ∀ mm, K (.bool true) mm) :
   body1 pA (callD pA tb0 la0 5) Y c48 [sup a m l 4 r e p x0 x1 x2 x3 c] ⟨0, .leaf⟩ K :=
  walk_of_vc (mono_false) (.wait 15 (.fix s15 (vb false) (.wait 15 (.fix s15 (vb true) .nil))))
  (show (vb (nB (eqI x0 1)) = vb false ∧ vb (nB (eqI x1 1)) = vb true ∧ vb true = vb true) from
  ⟨cb (congrArg Bool.not (eqT rfl rfl (il_2_1_o0 x0 u0))), cb (congrArg Bool.not (eqF rfl rfl (il_2_0_o0 x1 u1))), (by rfl)⟩)
  (by kernel_rfl) Y K hK
theorem il_4_2 (Y : Ys Prop) (a m l r e p x0 x1 x2 x3 c : Int) (u0 : x0 = 1) (u1 : x1 = 1) (u2 : x2 ≠ 1) (K : V → Mem → Prop) (hK : ∀ mm, K (.bool true) mm) :
   body1 pA (callD pA tb0 la0 5) Y c48 [sup a m l 4 r e p x0 x1 x2 x3 c] ⟨0, .leaf⟩ K :=
  walk_of_vc (mono_false) (.wait 15 (.fix s15 (vb false) (.wait 15 (.fix s15 (vb false) (.wait 15 (.fix s15 (vb true) .nil))))))
  (show (vb (nB (eqI x0 1)) = vb false ∧ vb (nB (eqI x1 1)) = vb false ∧ vb (nB (eqI x2 1)) = vb true ∧ vb true = vb true) from
  ⟨cb (congrArg Bool.not (eqT rfl rfl (il_2_1_o0 x0 u0))), cb (congrArg Bool.not (eqT rfl rfl (il_2_1_o0 x1 u1))), cb (congrArg Bool.not (eqF rfl rfl (il_2_0_o0 x2 u2))), (by rfl)⟩)
  (by kernel_rfl) Y K hK
theorem il_4_3 (Y : Ys Prop) (a m l r e p x0 x1 x2 x3 c : Int) (u0 : x0 = 1) (u1 : x1 = 1) (u2 : x2 = 1) (u3 : x3 ≠ 1) (K : V → Mem → Prop) (hK : ∀ mm, K (.bool true) mm) :
   body1 pA (callD pA tb0 la0 5) Y c48 [sup a m l 4 r e p x0 x1 x2 x3 c] ⟨0, .leaf⟩ K :=
  walk_of_vc (mono_false) (.wait 15 (.fix s15 (vb false) (.wait 15 (.fix s15 (vb false) (.wait 15 (.fix s15 (vb false) (.wait 15 (.fix s15 (vb true) .nil))))))))
  (show (vb (nB (eqI x0 1)) = vb false ∧ vb (nB (eqI x1 1)) = vb false ∧ vb (nB (eqI x2 1)) = vb false ∧ vb (nB (eqI x3 1)) = vb true ∧ vb true = vb true) from
  ⟨cb (congrArg Bool.not (eqT rfl rfl (il_2_1_o0 x0 u0))), cb (congrArg Bool.not (eqT rfl rfl (il_2_1_o0 x1 u1))), cb (congrArg Bool.not (eqT rfl rfl (il_2_1_o0 x2 u2))), cb (congrArg Bool.not (eqF rfl rfl (il_2_0_o0 x3 u3))), (by rfl)⟩)
  (by kernel_rfl) Y K hK
theorem il_4_4 (Y : Ys Prop) (a m l r e p x0 x1 x2 x3 c : Int) (u0 : x0 = 1) (u1 : x1 = 1) (u2 : x2 = 1) (u3 : x3 = 1) (K : V → Mem → Prop) (hK : ∀ mm, K (.bool false) mm) :
   body1 pA (callD pA tb0 la0 5) Y c48 [sup a m l 4 r e p x0 x1 x2 x3 c] ⟨0, .leaf⟩ K :=
  walk_of_vc (mono_false) (.wait 15 (.fix s15 (vb false) (.wait 15 (.fix s15 (vb false) (.wait 15 (.fix s15 (vb false) (.wait 15 (.fix s15 (vb false) .nil))))))))
  (show (vb (nB (eqI x0 1)) = vb false ∧ vb (nB (eqI x1 1)) = vb false ∧ vb (nB (eqI x2 1)) = vb false ∧ vb (nB (eqI x3 1)) = vb false ∧ vb false = vb false) from
  ⟨cb (congrArg Bool.not (eqT rfl rfl (il_2_1_o0 x0 u0))), cb (congrArg Bool.not (eqT rfl rfl (il_2_1_o0 x1 u1))), cb (congrArg Bool.not (eqT rfl rfl (il_2_1_o0 x2 u2))), cb (congrArg Bool.not (eqT rfl rfl (il_2_1_o0 x3 u3))), (by rfl)⟩)
  (by kernel_rfl) Y K hK
noncomputable abbrev sy_y_Qa (nn i k : Nat) : List (Sl × V) := [(s0, .slice 0 0 nn nn 12), (s3, .ptr 1 0), (s5, .int .i64 ((k : Nat) : Int)), (s6, .int .i64 ((i : Nat) : Int))]
noncomputable abbrev sy_y_Qb (nn i k : Nat) : List (Sl × V) := [(s0, .slice 0 0 nn nn 12), (s3, .ptr 1 0), (s5, .int .i64 (((k + 1) : Nat) : Int)), (s6, .int .i64 ((i + 1 : Nat) : Int))]
noncomputable abbrev sy_y_Qc (a m l n r e p x0 x1 x2 x3 c : Int) (X : List V) : Mem := memL 2 [(0, .cells X false), (1, .cells (cel a m l n r e p x0 x1 x2 x3 c) false)]
noncomputable abbrev sy_y_Qd (a m l n r e p x0 x1 x2 x3 c : Int) (X : List V) (a2 l2 n2 r2 e2 p2 y0 y1 y2 y3 c2 : Int) : Mem := memL 3 [(0, .cells X false), (1, .cells (cel a m l n r e p x0 x1 x2 x3 c) false), (2, .cells (cel a2 m l2 n2 r2 e2 p2 y0 y1 y2 y3 c2) false)]
theorem sy_y_o0 (nn : Nat) (i : Nat) (hn : nn ≤ (100 : Nat)) (hi : i < nn) : (↑i : Int) < (↑nn : Int) := by omega
theorem sy_y_o1 (nn : Nat) (i : Nat) (hn : nn ≤ (100 : Nat)) (hi : i < nn) : i < nn := by omega
theorem sy_y_o2 (k : Nat) (hk : k ≤ (100 : Nat)) : (-9223372036854775808 : Int) ≤ (↑(k + (1 : Nat)) : Int) := by omega
theorem sy_y_o3 (k : Nat) (hk : k ≤ (100 : Nat)) : (↑(k + (1 : Nat)) : Int) ≤ (9223372036854775807 : Int) := by omega
theorem sy_y_o4 (i : Nat) : (-9223372036854775808 : Int) ≤ (↑(i + (1 : Nat)) : Int) := by omega
theorem sy_y (Y : Ys Prop) (a m l n r e p x0 x1 x2 x3 c : Int) (nn : Nat) (X : List V) (hn : nn ≤ 100) (i k : Nat) (hi : i < nn) (hk : k ≤ 100) (a2 m2 l2 n2 r2 e2 p2 y0 y1 y2 y3 c2 : Int) (hx : loadV 12 (i * 12) X = some (sup a2 m2 l2 n2 r2 e2 p2 y0 y1 y2 y3 c2)) (hq : eqvV false K12 (sup a2 m l2 n2 r2 e2 p2 y0 y1 y2 y3 c2) (sup a m l n r e p x0 x1 x2 x3 c) = some (.bool true)) (T : Slots) (hT : allS T (sy_y_Qa nn i k)) (K : Ex → Slots → Mem → Prop) (hK : ∀ T', allS T' (sy_y_Qb nn i k) → K (.normal) T' (sy_y_Qd a m l n r e p x0 x1 x2 x3 c X a2 l2 n2 r2 e2 p2 y0 y1 y2 y3 c2)) :
   code pA (callD pA tb0 la0 5) Y c47l0 T (sy_y_Qc a m l n r e p x0 x1 x2 x3 c X) K :=
  code_of_vc (mono_false) (fixS (sy_y_Qa nn i k) (.wait 4 (.fix s11 (vb true) (.wait 3 (.res (V.ptr 0 (i * 12)) (.res (sup a2 m2 l2 n2 r2 e2 p2 y0 y1 y2 y3 c2) (.wait 8 (.res (vb true) (.wait 3 (.fix s25 (vi ↑(k + 1)) (.wait 3 (.fix s13 (vi ↑(i + 1)) .nil))))))))))))
  (show (AndS T (sy_y_Qa nn i k) (vb (ltI ↑i ↑nn) = vb true ∧ iaddrV 12 (V.slice 0 0 nn nn 12) (vi ↑i) = some (V.ptr 0 (i * 12)) ∧ loadV 12 (i * 12) X = some (sup a2 m2 l2 n2 r2 e2 p2 y0 y1 y2 y3 c2) ∧ eqvV false (K12) (sup a2 m l2 n2 r2 e2 p2 y0 y1 y2 y3 c2) (sup a m l n r e p x0 x1 x2 x3 c) = some (vb true) ∧ vi (wr IntKind.i64 (addI (↑k) 1)) = vi ↑(k + 1) ∧ vi (wr IntKind.i64 (addI (↑i) 1)) = vi ↑(i + 1) ∧ Ex.normal = Ex.normal ∧ rR (sy_y_Qd a m l n r e p x0 x1 x2 x3 c X a2 l2 n2 r2 e2 p2 y0 y1 y2 y3 c2) ∧ SamS (sy_y_Qb nn i k))) from
  andS hT ⟨cb (ltT rfl rfl (sy_y_o0 nn i hn hi)), (iaddr_ok0 (i := i) rfl (sy_y_o1 nn i hn hi)), hx, hq, (ci (wE_i64 (addN (a := k) (b := 1) rfl rfl) (sy_y_o2 k hk) (sy_y_o3 k hk))), (ci (wE_i64 (addN (a := i) (b := 1) rfl rfl) (sy_y_o4 i) (by omega))), rfl, rfl, (samS _)⟩)
  (by kernel_rfl) Y K hK
noncomputable abbrev sy_n_Qa (nn i k : Nat) : List (Sl × V) := [(s0, .slice 0 0 nn nn 12), (s3, .ptr 1 0), (s5, .int .i64 ((k : Nat) : Int)), (s6, .int .i64 ((i + 1 : Nat) : Int))]
theorem sy_n (Y : Ys Prop) (a m l n r e p x0 x1 x2 x3 c : Int) (nn : Nat) (X : List V) (hn : nn ≤ 100) (i k : Nat) (hi : i < nn) (hk : k ≤ 100) (a2 m2 l2 n2 r2 e2 p2 y0 y1 y2 y3 c2 : Int) (hx : loadV 12 (i * 12) X = some (sup a2 m2 l2 n2 r2 e2 p2 y0 y1 y2 y3 c2)) (hq : eqvV false K12 (sup a2 m l2 n2 r2 e2 p2 y0 y1 y2 y3 c2) (sup a m l n r e p x0 x1 x2 x3 c) = some (.bool false)) (T : Slots) (hT : allS T (sy_y_Qa nn i k)) (K : Ex → Slots → Mem → Prop) (hK : ∀ T', allS T' (sy_n_Qa nn i k) → K (.normal) T' (sy_y_Qd a m l n r e p x0 x1 x2 x3 c X a2 l2 n2 r2 e2 p2 y0 y1 y2 y3 c2)) :
   code pA (callD pA tb0 la0 5) Y c47l0 T (sy_y_Qc a m l n r e p x0 x1 x2 x3 c X) K :=
  code_of_vc (mono_false) (fixS (sy_y_Qa nn i k) (.wait 4 (.fix s11 (vb true) (.wait 3 (.res (V.ptr 0 (i * 12)) (.res (sup a2 m2 l2 n2 r2 e2 p2 y0 y1 y2 y3 c2) (.wait 8 (.res (vb false) (.wait 3 (.fix s13 (vi ↑(i + 1)) .nil))))))))))
  (show (AndS T (sy_y_Qa nn i k) (vb (ltI ↑i ↑nn) = vb true ∧ iaddrV 12 (V.slice 0 0 nn nn 12) (vi ↑i) = some (V.ptr 0 (i * 12)) ∧ loadV 12 (i * 12) X = some (sup a2 m2 l2 n2 r2 e2 p2 y0 y1 y2 y3 c2) ∧ eqvV false (K12) (sup a2 m l2 n2 r2 e2 p2 y0 y1 y2 y3 c2) (sup a m l n r e p x0 x1 x2 x3 c) = some (vb false) ∧ vi (wr IntKind.i64 (addI (↑i) 1)) = vi ↑(i + 1) ∧ Ex.normal = Ex.normal ∧ rR (sy_y_Qd a m l n r e p x0 x1 x2 x3 c X a2 l2 n2 r2 e2 p2 y0 y1 y2 y3 c2) ∧ SamS (sy_n_Qa nn i k))) from
  andS hT ⟨cb (ltT rfl rfl (sy_y_o0 nn i hn hi)), (iaddr_ok0 (i := i) rfl (sy_y_o1 nn i hn hi)), hx, hq, (ci (wE_i64 (addN (a := i) (b := 1) rfl rfl) (sy_y_o4 i) (by omega))), rfl, rfl, (samS _)⟩)
  (by kernel_rfl) Y K hK
noncomputable abbrev sy_e_Qa (nn k : Nat) : List (Sl × V) := [(s0, .slice 0 0 nn nn 12), (s3, .ptr 1 0), (s5, .int .i64 ((k : Nat) : Int)), (s6, .int .i64 ((nn : Nat) : Int))]
theorem sy_e_o0 (nn : Nat) (hn : nn ≤ (100 : Nat)) : ¬(↑nn : Int) < (↑nn : Int) := by omega
theorem sy_e (Y : Ys Prop) (a m l n r e p x0 x1 x2 x3 c : Int) (nn : Nat) (X : List V) (hn : nn ≤ 100) (k : Nat) (T : Slots) (hT : allS T (sy_e_Qa nn k)) (K : Ex → Slots → Mem → Prop) (hK : ∀ T', allS T' (sy_e_Qa nn k) → K (.exit 0) T' (sy_y_Qc a m l n r e p x0 x1 x2 x3 c X)) :
   code pA (callD pA tb0 la0 5) Y c47l0 T (sy_y_Qc a m l n r e p x0 x1 x2 x3 c X) K :=
  code_of_vc (mono_false) (fixS (sy_e_Qa nn k) (.wait 4 (.fix s11 (vb false) .nil)))
  (show (AndS T (sy_e_Qa nn k) (vb (ltI ↑nn ↑nn) = vb false ∧ Ex.exit 0 = Ex.exit 0 ∧ rR (sy_y_Qc a m l n r e p x0 x1 x2 x3 c X) ∧ SamS (sy_e_Qa nn k))) from
  andS hT ⟨cb (ltF rfl rfl (sy_e_o0 nn hn)), rfl, rfl, (samS _)⟩)
  (by kernel_rfl) Y K hK
noncomputable abbrev sy_Qa (a m l n r e p x0 x1 x2 x3 c : Int) (nn : Nat) (X : List V) (k : Nat) : Con := ⟨[.slice 0 0 nn nn 12, sup a m l n r e p x0 x1 x2 x3 c], [.cells X false], .int .i64 ((k : Nat) : Int), [.cells X false], []⟩
noncomputable abbrev sy_Qb (a m l n r e p x0 x1 x2 x3 c : Int) (X : List V) : Mem := memL 2 [(0, oC X false), (1, oC (cel a m l n r e p x0 x1 x2 x3 c) false)]
noncomputable abbrev sy_Qc (nn : Nat) : List (Sl × V) := [(s0, V.slice 0 0 nn nn 12), (s3, V.ptr 1 0), (s5, vi ↑0), (s6, vi ↑0)]
noncomputable abbrev sy_Qd (nn k : Nat) : List (Sl × V) := [(s0, V.slice 0 0 nn nn 12), (s3, V.ptr 1 0), (s5, vi ↑k), (s6, vi ↑nn)]
noncomputable abbrev sy_Qe (a m l n r e p x0 x1 x2 x3 c : Int) (nn : Nat) (X : List V) (k : Nat) : Prop := LoopOkD (callD pA tb0 la0 5) 1 c47l0 (Ex.exit 0) (sy_Qb a m l n r e p x0 x1 x2 x3 c X) (sy_Qc nn) (fun _ => True) (fun _ => (sy_Qb a m l n r e p x0 x1 x2 x3 c X)) fun _ => (sy_Qd nn k)
theorem sy (Y : Ys Prop) (a m l n r e p x0 x1 x2 x3 c : Int) (nn : Nat) (X : List V) (hn : nn ≤ 100) (k : Nat) (hk : k ≤ 100) (H : sy_Qe a m l n r e p x0 x1 x2 x3 c nn X k) :
   body1D (callD pA tb0 la0 5) Y c47 (sy_Qa a m l n r e p x0 x1 x2 x3 c nn X k).args (memO (sy_Qa a m l n r e p x0 x1 x2 x3 c nn X k).pre) (endC (sy_Qa a m l n r e p x0 x1 x2 x3 c nn X k)) :=
  walkCD_of_vc (C := (sy_Qa a m l n r e p x0 x1 x2 x3 c nn X k)) (mono_false) (.wait 4 (.invd (Ex.exit 0) (sy_Qb a m l n r e p x0 x1 x2 x3 c X) (sy_Qc nn) (fun x => True) (fun x => (sy_Qb a m l n r e p x0 x1 x2 x3 c X)) (fun x => (sy_Qd nn k)) fun xv0 => .nil))
  (show (rR (sy_Qb a m l n r e p x0 x1 x2 x3 c X) ∧ (EqZ [V.slice 0 0 nn nn 12, V.ptr 1 0, vi ↑0, vi ↑0]) ∧ (sy_Qe a m l n r e p x0 x1 x2 x3 c nn X k) ∧ (∀ (xv0 : EnL), True → ∀ (T0 : Slots), allS T0 (sy_Qd nn k) → (vi ↑k = vi ↑k ∧ (rR (some (oC X false)) ∧ True) ∧ True))) from
  ⟨rfl, (eqZ _), H, fun xv0 hq0 T0 hj0 => ⟨(by rfl), ⟨(by rfl), trivial⟩, trivial⟩⟩)
  (by kernel_rfl) Y
noncomputable abbrev ah_g_Qa (a m l n r e p x0 x1 x2 x3 c a2 m2 l2 n2 r2 e2 p2 y0 y1 y2 y3 c2 : Int) (nn : Nat) (ll : List Sp) : Con := ⟨[.slice 0 0 nn nn 12, sup a m l n r e p x0 x1 x2 x3 c, sup a2 m2 l2 n2 r2 e2 p2 y0 y1 y2 y3 c2], [.cells (cF ll) false], .bool true, [.cells (cF ll) false], []⟩
noncomputable abbrev ah_g_Qb (a m l n r e p x0 x1 x2 x3 c : Int) (nn : Nat) (ll : List Sp) (ka : Nat) : Con := { args := [V.slice 0 0 nn nn 12, sup a m l n r e p x0 x1 x2 x3 c], pre := [oC (cF ll) false], ans := vi ↑ka, old := [oC (cF ll) false], new := [] }
noncomputable abbrev ah_g_Qc (a2 m2 l2 n2 r2 e2 p2 y0 y1 y2 y3 c2 : Int) (nn : Nat) (ll : List Sp) (kb : Nat) : Con := { args := [V.slice 0 0 nn nn 12, sup a2 m2 l2 n2 r2 e2 p2 y0 y1 y2 y3 c2], pre := [oC (cF ll) false], ans := vi ↑kb, old := [oC (cF ll) false], new := [] }
theorem ah_g_o0 (ka : Nat) (kb : Nat) (h : kb < ka) : ¬(↑ka : Int) = (↑kb : Int) := by omega
theorem ah_g_o1 (ka : Nat) (kb : Nat) (h : kb < ka) : (↑kb : Int) < (↑ka : Int) := by omega
theorem ah_g (Y : Ys Prop) (a m l n r e p x0 x1 x2 x3 c a2 m2 l2 n2 r2 e2 p2 y0 y1 y2 y3 c2 : Int) (nn : Nat) (ll : List Sp) (hn : nn ≤ 100) (ka kb : Nat) (ha : S47 (ah_g_Qb a m l n r e p x0 x1 x2 x3 c nn ll ka)) (haw : Con.wf (ah_g_Qb a m l n r e p x0 x1 x2 x3 c nn ll ka) = true) (hb : S47 (ah_g_Qc a2 m2 l2 n2 r2 e2 p2 y0 y1 y2 y3 c2 nn ll kb)) (hbw : Con.wf (ah_g_Qc a2 m2 l2 n2 r2 e2 p2 y0 y1 y2 y3 c2 nn ll kb) = true) (h : kb < ka) :
   body1 pA (callD pA tb0 la40 5) Y c40 (ah_g_Qa a m l n r e p x0 x1 x2 x3 c a2 m2 l2 n2 r2 e2 p2 y0 y1 y2 y3 c2 nn ll).args (memO (ah_g_Qa a m l n r e p x0 x1 x2 x3 c a2 m2 l2 n2 r2 e2 p2 y0 y1 y2 y3 c2 nn ll).pre) (endC (ah_g_Qa a m l n r e p x0 x1 x2 x3 c a2 m2 l2 n2 r2 e2 p2 y0 y1 y2 y3 c2 nn ll)) :=
  walkC_of_vc (C := (ah_g_Qa a m l n r e p x0 x1 x2 x3 c a2 m2 l2 n2 r2 e2 p2 y0 y1 y2 y3 c2 nn ll)) (mono40) (.wait 5 (.con (ah_g_Qb a m l n r e p x0 x1 x2 x3 c nn ll ka) [0] (.fixM 0 (oC (cF ll) false) (.wait 3 (.con (ah_g_Qc a2 m2 l2 n2 r2 e2 p2 y0 y1 y2 y3 c2 nn ll kb) [0] (.fixM 0 (oC (cF ll) false) (.wait 4 (.fix s17 (vb true) (.wait 4 (.fix s20 (vb true) .nil))))))))))
  (show (cA (ah_g_Qb a m l n r e p x0 x1 x2 x3 c nn ll ka) [0] ([V.slice 0 0 nn nn 12, sup a m l n r e p x0 x1 x2 x3 c]) la40 47 ((oR [0] (oC (cF ll) false) ∧ True) ∧ (eC (ah_g_Qb a m l n r e p x0 x1 x2 x3 c nn ll ka) [0] 3 (cF ll) ∧ (cA (ah_g_Qc a2 m2 l2 n2 r2 e2 p2 y0 y1 y2 y3 c2 nn ll kb) [0] ([V.slice 0 0 nn nn 12, sup a2 m2 l2 n2 r2 e2 p2 y0 y1 y2 y3 c2]) la40 47 ((oR [0] (oC (cF ll) false) ∧ True) ∧ (eC (ah_g_Qc a2 m2 l2 n2 r2 e2 p2 y0 y1 y2 y3 c2 nn ll kb) [0] 3 (cF ll) ∧ (vb (nB (eqI ↑ka ↑kb)) = vb true ∧ vb (ltI ↑kb ↑ka) = vb true ∧ vb true = vb true ∧ (rR (some (oC (cF ll) false)) ∧ True) ∧ True))))))) from
  ⟨(cI (ha)), haw, rfl, rfl, ⟨congrArg (fun c => some (AObj.cells c false)) (rens_cF _ _).symm, trivial⟩, ⟨(congrArg (fun c => some (AObj.cells c false)) (rens_cF _ _)), ⟨(cI (hb)), hbw, rfl, rfl, ⟨congrArg (fun c => some (AObj.cells c false)) (rens_cF _ _).symm, trivial⟩, ⟨(congrArg (fun c => some (AObj.cells c false)) (rens_cF _ _)), ⟨cb (congrArg Bool.not (eqF rfl rfl (ah_g_o0 ka kb h))), (cb (ltT rfl rfl (ah_g_o1 ka kb h))), (by rfl), ⟨(by rfl), trivial⟩, trivial⟩⟩⟩⟩⟩)
  (by kernel_rfl) Y
noncomputable abbrev ah_l_Qa (a m l n r e p x0 x1 x2 x3 c a2 m2 l2 n2 r2 e2 p2 y0 y1 y2 y3 c2 : Int) (nn : Nat) (ll : List Sp) : Con := ⟨[.slice 0 0 nn nn 12, sup a m l n r e p x0 x1 x2 x3 c, sup a2 m2 l2 n2 r2 e2 p2 y0 y1 y2 y3 c2], [.cells (cF ll) false], .bool false, [.cells (cF ll) false], []⟩
theorem ah_l_o0 (ka : Nat) (kb : Nat) (h : ka < kb) : ¬(↑ka : Int) = (↑kb : Int) := by omega
theorem ah_l_o1 (ka : Nat) (kb : Nat) (h : ka < kb) : ¬(↑kb : Int) < (↑ka : Int) := by omega
theorem ah_l (Y : Ys Prop) (a m l n r e p x0 x1 x2 x3 c a2 m2 l2 n2 r2 e2 p2 y0 y1 y2 y3 c2 : Int) (nn : Nat) (ll : List Sp) (hn : nn ≤ 100) (ka kb : Nat) (ha : S47 (ah_g_Qb a m l n r e p x0 x1 x2 x3 c nn ll ka)) (haw : Con.wf (ah_g_Qb a m l n r e p x0 x1 x2 x3 c nn ll ka) = true) (hb : S47 (ah_g_Qc a2 m2 l2 n2 r2 e2 p2 y0 y1 y2 y3 c2 nn ll kb)) (hbw : Con.wf (ah_g_Qc a2 m2 l2 n2 r2 e2 p2 y0 y1 y2 y3 c2 nn ll kb) = true) (h : ka < kb) :
   body1 pA (callD pA tb0 la40 5) Y c40 (ah_l_Qa a m l n r e p x0 x1 x2 x3 c a2 m2 l2 n2 r2 e2 p2 y0 y1 y2 y3 c2 nn ll).args (memO (ah_l_Qa a m l n r e p x0 x1 x2 x3 c a2 m2 l2 n2 r2 e2 p2 y0 y1 y2 y3 c2 nn ll).pre) (endC (ah_l_Qa a m l n r e p x0 x1 x2 x3 c a2 m2 l2 n2 r2 e2 p2 y0 y1 y2 y3 c2 nn ll)) :=
  walkC_of_vc (C := (ah_l_Qa a m l n r e p x0 x1 x2 x3 c a2 m2 l2 n2 r2 e2 p2 y0 y1 y2 y3 c2 nn ll)) (mono40) (.wait 5 (.con (ah_g_Qb a m l n r e p x0 x1 x2 x3 c nn ll ka) [0] (.fixM 0 (oC (cF ll) false) (.wait 3 (.con (ah_g_Qc a2 m2 l2 n2 r2 e2 p2 y0 y1 y2 y3 c2 nn ll kb) [0] (.fixM 0 (oC (cF ll) false) (.wait 4 (.fix s17 (vb true) (.wait 4 (.fix s20 (vb false) .nil))))))))))
  (show (cA (ah_g_Qb a m l n r e p x0 x1 x2 x3 c nn ll ka) [0] ([V.slice 0 0 nn nn 12, sup a m l n r e p x0 x1 x2 x3 c]) la40 47 ((oR [0] (oC (cF ll) false) ∧ True) ∧ (eC (ah_g_Qb a m l n r e p x0 x1 x2 x3 c nn ll ka) [0] 3 (cF ll) ∧ (cA (ah_g_Qc a2 m2 l2 n2 r2 e2 p2 y0 y1 y2 y3 c2 nn ll kb) [0] ([V.slice 0 0 nn nn 12, sup a2 m2 l2 n2 r2 e2 p2 y0 y1 y2 y3 c2]) la40 47 ((oR [0] (oC (cF ll) false) ∧ True) ∧ (eC (ah_g_Qc a2 m2 l2 n2 r2 e2 p2 y0 y1 y2 y3 c2 nn ll kb) [0] 3 (cF ll) ∧ (vb (nB (eqI ↑ka ↑kb)) = vb true ∧ vb (ltI ↑kb ↑ka) = vb false ∧ vb false = vb false ∧ (rR (some (oC (cF ll) false)) ∧ True) ∧ True))))))) from
  ⟨(cI (ha)), haw, rfl, rfl, ⟨congrArg (fun c => some (AObj.cells c false)) (rens_cF _ _).symm, trivial⟩, ⟨(congrArg (fun c => some (AObj.cells c false)) (rens_cF _ _)), ⟨(cI (hb)), hbw, rfl, rfl, ⟨congrArg (fun c => some (AObj.cells c false)) (rens_cF _ _).symm, trivial⟩, ⟨(congrArg (fun c => some (AObj.cells c false)) (rens_cF _ _)), ⟨cb (congrArg Bool.not (eqF rfl rfl (ah_l_o0 ka kb h))), (cb (ltF rfl rfl (ah_l_o1 ka kb h))), (by rfl), ⟨(by rfl), trivial⟩, trivial⟩⟩⟩⟩⟩)
  (by kernel_rfl) Y
theorem ah_n_o0 (ka : Nat) (kb : Nat) (h : ka = kb) : (↑ka : Int) = (↑kb : Int) := by omega
theorem ah_n (Y : Ys Prop) (a m l n r e p x0 x1 x2 x3 c a2 m2 l2 n2 r2 e2 p2 y0 y1 y2 y3 c2 : Int) (nn : Nat) (ll : List Sp) (hn : nn ≤ 100) (ka kb : Nat) (ha : S47 (ah_g_Qb a m l n r e p x0 x1 x2 x3 c nn ll ka)) (haw : Con.wf (ah_g_Qb a m l n r e p x0 x1 x2 x3 c nn ll ka) = true) (hb : S47 (ah_g_Qc a2 m2 l2 n2 r2 e2 p2 y0 y1 y2 y3 c2 nn ll kb)) (hbw : Con.wf (ah_g_Qc a2 m2 l2 n2 r2 e2 p2 y0 y1 y2 y3 c2 nn ll kb) = true) (h : ka = kb) (hi : R48 [sup a m l n r e p x0 x1 x2 x3 c] = some (.bool false)) :
   body1 pA (callD pA tb0 la40 5) Y c40 (ah_l_Qa a m l n r e p x0 x1 x2 x3 c a2 m2 l2 n2 r2 e2 p2 y0 y1 y2 y3 c2 nn ll).args (memO (ah_l_Qa a m l n r e p x0 x1 x2 x3 c a2 m2 l2 n2 r2 e2 p2 y0 y1 y2 y3 c2 nn ll).pre) (endC (ah_l_Qa a m l n r e p x0 x1 x2 x3 c a2 m2 l2 n2 r2 e2 p2 y0 y1 y2 y3 c2 nn ll)) :=
  walkC_of_vc (C := (ah_l_Qa a m l n r e p x0 x1 x2 x3 c a2 m2 l2 n2 r2 e2 p2 y0 y1 y2 y3 c2 nn ll)) (mono40) (.wait 5 (.con (ah_g_Qb a m l n r e p x0 x1 x2 x3 c nn ll ka) [0] (.fixM 0 (oC (cF ll) false) (.wait 3 (.con (ah_g_Qc a2 m2 l2 n2 r2 e2 p2 y0 y1 y2 y3 c2 nn ll kb) [0] (.fixM 0 (oC (cF ll) false) (.wait 4 (.fix s17 (vb false) (.wait 2 (.lay (Lay.plain (vb false)) .nil))))))))))
  (show (cA (ah_g_Qb a m l n r e p x0 x1 x2 x3 c nn ll ka) [0] ([V.slice 0 0 nn nn 12, sup a m l n r e p x0 x1 x2 x3 c]) la40 47 ((oR [0] (oC (cF ll) false) ∧ True) ∧ (eC (ah_g_Qb a m l n r e p x0 x1 x2 x3 c nn ll ka) [0] 3 (cF ll) ∧ (cA (ah_g_Qc a2 m2 l2 n2 r2 e2 p2 y0 y1 y2 y3 c2 nn ll kb) [0] ([V.slice 0 0 nn nn 12, sup a2 m2 l2 n2 r2 e2 p2 y0 y1 y2 y3 c2]) la40 47 ((oR [0] (oC (cF ll) false) ∧ True) ∧ (eC (ah_g_Qc a2 m2 l2 n2 r2 e2 p2 y0 y1 y2 y3 c2 nn ll kb) [0] 3 (cF ll) ∧ (vb (nB (eqI ↑ka ↑kb)) = vb false ∧ (∀ (m' : Mem) (K' : V → Mem → Prop), la40 (.func (.func 48) [] []) ([sup a m l n r e p x0 x1 x2 x3 c]) m' K' = Lay.go (Lay.plain (vb false)) m' K') ∧ (vb false = vb false ∧ (rR (some (oC (cF ll) false)) ∧ True) ∧ True)))))))) from
  ⟨(cI (ha)), haw, rfl, rfl, ⟨congrArg (fun c => some (AObj.cells c false)) (rens_cF _ _).symm, trivial⟩, ⟨(congrArg (fun c => some (AObj.cells c false)) (rens_cF _ _)), ⟨(cI (hb)), hbw, rfl, rfl, ⟨congrArg (fun c => some (AObj.cells c false)) (rens_cF _ _).symm, trivial⟩, ⟨(congrArg (fun c => some (AObj.cells c false)) (rens_cF _ _)), ⟨cb (congrArg Bool.not (eqT rfl rfl (ah_n_o0 ka kb h))), fun m' K' => fnE hi, ⟨(by rfl), ⟨(by rfl), trivial⟩, trivial⟩⟩⟩⟩⟩⟩)
  (by kernel_rfl) Y
theorem ah_yt (Y : Ys Prop) (a m l n r e p x0 x1 x2 x3 c a2 m2 l2 n2 r2 e2 p2 y0 y1 y2 y3 c2 : Int) (nn : Nat) (ll : List Sp) (hn : nn ≤ 100) (ka kb : Nat) (ha : S47 (ah_g_Qb a m l n r e p x0 x1 x2 x3 c nn ll ka)) (haw : Con.wf (ah_g_Qb a m l n r e p x0 x1 x2 x3 c nn ll ka) = true) (hb : S47 (ah_g_Qc a2 m2 l2 n2 r2 e2 p2 y0 y1 y2 y3 c2 nn ll kb)) (hbw : Con.wf (ah_g_Qc a2 m2 l2 n2 r2 e2 p2 y0 y1 y2 y3 c2 nn ll kb) = true) (h : ka = kb) (hi : R48 [sup a m l n r e p x0 x1 x2 x3 c] = some (.bool true)) (hj : R48 [sup a2 m2 l2 n2 r2 e2 p2 y0 y1 y2 y3 c2] = some (.bool true)) :
   body1 pA (callD pA tb0 la40 5) Y c40 (ah_l_Qa a m l n r e p x0 x1 x2 x3 c a2 m2 l2 n2 r2 e2 p2 y0 y1 y2 y3 c2 nn ll).args (memO (ah_l_Qa a m l n r e p x0 x1 x2 x3 c a2 m2 l2 n2 r2 e2 p2 y0 y1 y2 y3 c2 nn ll).pre) (endC (ah_l_Qa a m l n r e p x0 x1 x2 x3 c a2 m2 l2 n2 r2 e2 p2 y0 y1 y2 y3 c2 nn ll)) :=
  walkC_of_vc (C := (ah_l_Qa a m l n r e p x0 x1 x2 x3 c a2 m2 l2 n2 r2 e2 p2 y0 y1 y2 y3 c2 nn ll)) (mono40) (.wait 5 (.con (ah_g_Qb a m l n r e p x0 x1 x2 x3 c nn ll ka) [0] (.fixM 0 (oC (cF ll) false) (.wait 3 (.con (ah_g_Qc a2 m2 l2 n2 r2 e2 p2 y0 y1 y2 y3 c2 nn ll kb) [0] (.fixM 0 (oC (cF ll) false) (.wait 4 (.fix s17 (vb false) (.wait 2 (.lay (Lay.plain (vb true)) (.wait 2 (.lay (Lay.plain (vb true)) .nil))))))))))))
  (show (cA (ah_g_Qb a m l n r e p x0 x1 x2 x3 c nn ll ka) [0] ([V.slice 0 0 nn nn 12, sup a m l n r e p x0 x1 x2 x3 c]) la40 47 ((oR [0] (oC (cF ll) false) ∧ True) ∧ (eC (ah_g_Qb a m l n r e p x0 x1 x2 x3 c nn ll ka) [0] 3 (cF ll) ∧ (cA (ah_g_Qc a2 m2 l2 n2 r2 e2 p2 y0 y1 y2 y3 c2 nn ll kb) [0] ([V.slice 0 0 nn nn 12, sup a2 m2 l2 n2 r2 e2 p2 y0 y1 y2 y3 c2]) la40 47 ((oR [0] (oC (cF ll) false) ∧ True) ∧ (eC (ah_g_Qc a2 m2 l2 n2 r2 e2 p2 y0 y1 y2 y3 c2 nn ll kb) [0] 3 (cF ll) ∧ (vb (nB (eqI ↑ka ↑kb)) = vb false ∧ (∀ (m' : Mem) (K' : V → Mem → Prop), la40 (.func (.func 48) [] []) ([sup a m l n r e p x0 x1 x2 x3 c]) m' K' = Lay.go (Lay.plain (vb true)) m' K') ∧ ((∀ (m' : Mem) (K' : V → Mem → Prop), la40 (.func (.func 48) [] []) ([sup a2 m2 l2 n2 r2 e2 p2 y0 y1 y2 y3 c2]) m' K' = Lay.go (Lay.plain (vb true)) m' K') ∧ (vb false = vb false ∧ (rR (some (oC (cF ll) false)) ∧ True) ∧ True))))))))) from
  ⟨(cI (ha)), haw, rfl, rfl, ⟨congrArg (fun c => some (AObj.cells c false)) (rens_cF _ _).symm, trivial⟩, ⟨(congrArg (fun c => some (AObj.cells c false)) (rens_cF _ _)), ⟨(cI (hb)), hbw, rfl, rfl, ⟨congrArg (fun c => some (AObj.cells c false)) (rens_cF _ _).symm, trivial⟩, ⟨(congrArg (fun c => some (AObj.cells c false)) (rens_cF _ _)), ⟨cb (congrArg Bool.not (eqT rfl rfl (ah_n_o0 ka kb h))), fun m' K' => fnE hi, ⟨fun m' K' => fnE hj, ⟨(by rfl), ⟨(by rfl), trivial⟩, trivial⟩⟩⟩⟩⟩⟩⟩)
  (by kernel_rfl) Y
theorem ah_yf (Y : Ys Prop) (a m l n r e p x0 x1 x2 x3 c a2 m2 l2 n2 r2 e2 p2 y0 y1 y2 y3 c2 : Int) (nn : Nat) (ll : List Sp) (hn : nn ≤ 100) (ka kb : Nat) (ha : S47 (ah_g_Qb a m l n r e p x0 x1 x2 x3 c nn ll ka)) (haw : Con.wf (ah_g_Qb a m l n r e p x0 x1 x2 x3 c nn ll ka) = true) (hb : S47 (ah_g_Qc a2 m2 l2 n2 r2 e2 p2 y0 y1 y2 y3 c2 nn ll kb)) (hbw : Con.wf (ah_g_Qc a2 m2 l2 n2 r2 e2 p2 y0 y1 y2 y3 c2 nn ll kb) = true) (h : ka = kb) (hi : R48 [sup a m l n r e p x0 x1 x2 x3 c] = some (.bool true)) (hj : R48 [sup a2 m2 l2 n2 r2 e2 p2 y0 y1 y2 y3 c2] = some (.bool false)) :
   body1 pA (callD pA tb0 la40 5) Y c40 (ah_g_Qa a m l n r e p x0 x1 x2 x3 c a2 m2 l2 n2 r2 e2 p2 y0 y1 y2 y3 c2 nn ll).args (memO (ah_g_Qa a m l n r e p x0 x1 x2 x3 c a2 m2 l2 n2 r2 e2 p2 y0 y1 y2 y3 c2 nn ll).pre) (endC (ah_g_Qa a m l n r e p x0 x1 x2 x3 c a2 m2 l2 n2 r2 e2 p2 y0 y1 y2 y3 c2 nn ll)) :=
  walkC_of_vc (C := (ah_g_Qa a m l n r e p x0 x1 x2 x3 c a2 m2 l2 n2 r2 e2 p2 y0 y1 y2 y3 c2 nn ll)) (mono40) (.wait 5 (.con (ah_g_Qb a m l n r e p x0 x1 x2 x3 c nn ll ka) [0] (.fixM 0 (oC (cF ll) false) (.wait 3 (.con (ah_g_Qc a2 m2 l2 n2 r2 e2 p2 y0 y1 y2 y3 c2 nn ll kb) [0] (.fixM 0 (oC (cF ll) false) (.wait 4 (.fix s17 (vb false) (.wait 2 (.lay (Lay.plain (vb true)) (.wait 2 (.lay (Lay.plain (vb false)) .nil))))))))))))
  (show (cA (ah_g_Qb a m l n r e p x0 x1 x2 x3 c nn ll ka) [0] ([V.slice 0 0 nn nn 12, sup a m l n r e p x0 x1 x2 x3 c]) la40 47 ((oR [0] (oC (cF ll) false) ∧ True) ∧ (eC (ah_g_Qb a m l n r e p x0 x1 x2 x3 c nn ll ka) [0] 3 (cF ll) ∧ (cA (ah_g_Qc a2 m2 l2 n2 r2 e2 p2 y0 y1 y2 y3 c2 nn ll kb) [0] ([V.slice 0 0 nn nn 12, sup a2 m2 l2 n2 r2 e2 p2 y0 y1 y2 y3 c2]) la40 47 ((oR [0] (oC (cF ll) false) ∧ True) ∧ (eC (ah_g_Qc a2 m2 l2 n2 r2 e2 p2 y0 y1 y2 y3 c2 nn ll kb) [0] 3 (cF ll) ∧ (vb (nB (eqI ↑ka ↑kb)) = vb false ∧ (∀ (m' : Mem) (K' : V → Mem → Prop), la40 (.func (.func 48) [] []) ([sup a m l n r e p x0 x1 x2 x3 c]) m' K' = Lay.go (Lay.plain (vb true)) m' K') ∧ ((∀ (m' : Mem) (K' : V → Mem → Prop), la40 (.func (.func 48) [] []) ([sup a2 m2 l2 n2 r2 e2 p2 y0 y1 y2 y3 c2]) m' K' = Lay.go (Lay.plain (vb false)) m' K') ∧ (vb true = vb true ∧ (rR (some (oC (cF ll) false)) ∧ True) ∧ True))))))))) from
  ⟨(cI (ha)), haw, rfl, rfl, ⟨congrArg (fun c => some (AObj.cells c false)) (rens_cF _ _).symm, trivial⟩, ⟨(congrArg (fun c => some (AObj.cells c false)) (rens_cF _ _)), ⟨(cI (hb)), hbw, rfl, rfl, ⟨congrArg (fun c => some (AObj.cells c false)) (rens_cF _ _).symm, trivial⟩, ⟨(congrArg (fun c => some (AObj.cells c false)) (rens_cF _ _)), ⟨cb (congrArg Bool.not (eqT rfl rfl (ah_n_o0 ka kb h))), fun m' K' => fnE hi, ⟨fun m' K' => fnE hj, ⟨(by rfl), ⟨(by rfl), trivial⟩, trivial⟩⟩⟩⟩⟩⟩⟩)
  (by kernel_rfl) Y
end Go.Proofs.Ythmbmcpjakbepaa
