/- The law's own functions: runs by script. No condition. -/
import Derived.Test.YtjikaankdnmabaaAJ
namespace Go.Proofs.Ytjikaankdnmabaa
open Go Go.AM
set_option maxRecDepth 100000
set_option maxHeartbeats 0
set_option linter.unusedVariables false
inductive S14 : Con → Prop
  | mk (ys : List Int) (j : Nat) (hj : ys.length = j) (h4 : j ≤ 100) : S14 ⟨[.slice 0 0 j j 1, .slice 1 0 j j 1], [.cells (iV ys) false, .cells (iV ys) false], .bool true, [.cells (iV ys) false, .cells (iV ys) false], []⟩
  | nil : S14 ⟨[.nilslice, .nilslice], [], .bool true, [], []⟩
noncomputable abbrev si_s_Qa (ys : List Int) : Mem := memL 2 [(0, oC (iV ys) false), (1, oC (iV ys) false)]
theorem si_s_o0 (j : Nat) (i : Nat) (j4 : j ≤ (100 : Nat)) (hi : i < j) : (↑i : Int) < (↑j : Int) := by omega
theorem si_s_o1 (j : Nat) (i : Nat) (j4 : j ≤ (100 : Nat)) (hi : i < j) : i < j := by omega
theorem si_s_o2 (d : Int) : d = d := by omega
theorem si_s_o3 (i : Nat) : (-9223372036854775808 : Int) ≤ (↑(i + (1 : Nat)) : Int) := by omega
theorem si_s (Y : Ys Prop) (ys : List Int) (j : Nat) (j4 : j ≤ 100) (i : Nat) (hi : i < j) (d : Int) (hn : nth (iV ys) i = some (.int .i64 d)) (T : Slots) (hT : allS T [(s0, .slice 0 0 j j 1), (s1, .slice 1 0 j j 1), (s4, .bool false), (s5, .int .i64 ((i : Nat) : Int))]) (K : Ex → Slots → Mem → Prop) (hK : ∀ T', allS T' [(s0, .slice 0 0 j j 1), (s1, .slice 1 0 j j 1), (s4, .bool false), (s5, .int .i64 ((i + 1 : Nat) : Int))] → K (.normal) T' (memL 2 [(0, .cells (iV ys) false), (1, .cells (iV ys) false)])) :
   code pA (callD pA tb0 la0 5) Y c14l0 T (memL 2 [(0, .cells (iV ys) false), (1, .cells (iV ys) false)]) K :=
  code_of_vc (mono_false) (.fix s0 (V.slice 0 0 j j 1) (.fix s1 (V.slice 1 0 j j 1) (.fix s4 (vb false) (.fix s5 (vi ↑i) (.wait 4 (.fix s14 (vb true) (.wait 3 (.res (V.ptr 0 i) (.res (vi d) (.wait 2 (.res (V.ptr 1 i) (.res (vi d) (.wait 1 (.fix s25 (vb false) (.wait 3 (.fix s16 (vi ↑(i + 1)) .nil))))))))))))))))
  (show (Slots.get T s0 = V.slice 0 0 j j 1 ∧ Slots.get T s1 = V.slice 1 0 j j 1 ∧ Slots.get T s4 = vb false ∧ Slots.get T s5 = vi ↑i ∧ vb (ltI ↑i ↑j) = vb true ∧ iaddrV 1 (V.slice 0 0 j j 1) (vi ↑i) = some (V.ptr 0 i) ∧ nth (iV ys) (i) = some (vi d) ∧ iaddrV 1 (V.slice 1 0 j j 1) (vi ↑i) = some (V.ptr 1 i) ∧ nth (iV ys) (i) = some (vi d) ∧ vb (nB (eqI d d)) = vb false ∧ vi (wr IntKind.i64 (addI (↑i) 1)) = vi ↑(i + 1) ∧ Ex.normal = Ex.normal ∧ (si_s_Qa ys) = (si_s_Qa ys) ∧ (rR (V.slice 0 0 j j 1) ∧ (rR (V.slice 1 0 j j 1) ∧ (vb false = vb false ∧ (vi ↑(i + 1) = vi ↑(i + 1) ∧ True))))) from
  ⟨hT.1, hT.2.1, hT.2.2.1, hT.2.2.2.1, cb (ltT rfl rfl (si_s_o0 j i j4 hi)), (iaddr_ok1 (i := i) rfl (si_s_o1 j i j4 hi)), hn, (iaddr_ok1 (i := i) rfl (si_s_o1 j i j4 hi)), hn, cb (congrArg Bool.not (eqT rfl rfl (si_s_o2 d))), (ci (wE_i64 (addN (a := i) (b := 1) rfl rfl) (si_s_o3 i) (by omega))), rfl, rfl, ⟨rfl, ⟨rfl, ⟨rfl, ⟨rfl, trivial⟩⟩⟩⟩⟩)
  (by kernel_rfl) Y K hK
theorem si_f_o0 (j : Nat) (j4 : j ≤ (100 : Nat)) : ¬(↑j : Int) < (↑j : Int) := by omega
theorem si_f (Y : Ys Prop) (ys : List Int) (j : Nat) (j4 : j ≤ 100)  (T : Slots) (hT : allS T [(s0, .slice 0 0 j j 1), (s1, .slice 1 0 j j 1), (s4, .bool false), (s5, .int .i64 ((j : Nat) : Int))]) (K : Ex → Slots → Mem → Prop) (hK : ∀ T', allS T' [(s0, .slice 0 0 j j 1), (s1, .slice 1 0 j j 1), (s4, .bool false), (s5, .int .i64 ((j : Nat) : Int))] → K (.exit 0) T' (memL 2 [(0, .cells (iV ys) false), (1, .cells (iV ys) false)])) :
   code pA (callD pA tb0 la0 5) Y c14l0 T (memL 2 [(0, .cells (iV ys) false), (1, .cells (iV ys) false)]) K :=
  code_of_vc (mono_false) (.fix s0 (V.slice 0 0 j j 1) (.fix s1 (V.slice 1 0 j j 1) (.fix s4 (vb false) (.fix s5 (vi ↑j) (.wait 4 (.fix s14 (vb false) .nil))))))
  (show (Slots.get T s0 = V.slice 0 0 j j 1 ∧ Slots.get T s1 = V.slice 1 0 j j 1 ∧ Slots.get T s4 = vb false ∧ Slots.get T s5 = vi ↑j ∧ vb (ltI ↑j ↑j) = vb false ∧ Ex.exit 0 = Ex.exit 0 ∧ (si_s_Qa ys) = (si_s_Qa ys) ∧ (rR (V.slice 0 0 j j 1) ∧ (rR (V.slice 1 0 j j 1) ∧ (vb false = vb false ∧ (vi ↑j = vi ↑j ∧ True))))) from
  ⟨hT.1, hT.2.1, hT.2.2.1, hT.2.2.2.1, cb (ltF rfl rfl (si_f_o0 j j4)), rfl, rfl, ⟨rfl, ⟨rfl, ⟨rfl, ⟨rfl, trivial⟩⟩⟩⟩⟩)
  (by kernel_rfl) Y K hK
noncomputable abbrev si_Qa (ys : List Int) (j : Nat) : Con := ⟨[.slice 0 0 j j 1, .slice 1 0 j j 1], [.cells (iV ys) false, .cells (iV ys) false], .bool true, [.cells (iV ys) false, .cells (iV ys) false], []⟩
noncomputable abbrev si_Qb (j : Nat) : List (Sl × V) := [(s0, V.slice 0 0 j j 1), (s1, V.slice 1 0 j j 1), (s4, vb false), (s5, vi ↑0)]
noncomputable abbrev si_Qc (j : Nat) : List (Sl × V) := [(s0, V.slice 0 0 j j 1), (s1, V.slice 1 0 j j 1), (s4, vb false), (s5, vi ↑j)]
noncomputable abbrev si_Qd (ys : List Int) (j : Nat) : Prop := LoopOk2 (callD pA tb0 la0 5) c14l0 (Ex.exit 0) (si_s_Qa ys) (si_Qb j) (si_s_Qa ys) (si_Qc j)
theorem si_o0 (j : Nat) (j4 : j ≤ (100 : Nat)) : (↑j : Int) = (↑j : Int) := by omega
theorem si (Y : Ys Prop) (ys : List Int) (j : Nat) (j4 : j ≤ 100) (H : si_Qd ys j) :
   body1 pA (callD pA tb0 la0 5) Y c14 (si_Qa ys j).args (memO (si_Qa ys j).pre) (endC (si_Qa ys j)) :=
  walkC_of_vc (C := (si_Qa ys j)) (mono_false) (.wait 6 (.fix s10 (vb false) (.wait 2 (.inv2 (Ex.exit 0) (si_s_Qa ys) (si_Qb j) (si_s_Qa ys) (si_Qc j) (.fix s0 (V.slice 0 0 j j 1) (.fix s1 (V.slice 1 0 j j 1) (.fix s4 (vb false) (.fix s5 (vi ↑j) .nil))))))))
  (show (vb (nB (eqI ↑j ↑j)) = vb false ∧ (si_s_Qa ys) = (si_s_Qa ys) ∧ (EqZ [V.slice 0 0 j j 1, V.slice 1 0 j j 1, vb false, vi ↑0]) ∧ (si_Qd ys j) ∧ (∀ (T0 : Slots), allS T0 (si_Qc j) → (Slots.get T0 s0 = V.slice 0 0 j j 1 ∧ Slots.get T0 s1 = V.slice 1 0 j j 1 ∧ Slots.get T0 s4 = vb false ∧ Slots.get T0 s5 = vi ↑j ∧ vb true = vb true ∧ (rR (some (oC (iV ys) false)) ∧ (rR (some (oC (iV ys) false)) ∧ True)) ∧ True))) from
  ⟨cb (congrArg Bool.not (eqT rfl rfl (si_o0 j j4))), rfl, (eqZ _), H, fun T0 hj0 => ⟨hj0.1, hj0.2.1, hj0.2.2.1, hj0.2.2.2.1, (by rfl), ⟨(by rfl), ⟨(by rfl), trivial⟩⟩, trivial⟩⟩)
  (by kernel_rfl) Y
noncomputable abbrev si0_Qa : Con := ⟨[.nilslice, .nilslice], [], .bool true, [], []⟩
theorem si0 (Y : Ys Prop)  :
   body1 pA (callD pA tb0 la0 5) Y c14 (si0_Qa).args (memO (si0_Qa).pre) (endC (si0_Qa)) :=
  walkC_of_vc (C := (si0_Qa)) (mono_false) .nil
  (show (vb true = vb true ∧ True ∧ True) from
  ⟨(by rfl), trivial, trivial⟩)
  (by kernel_rfl) Y
end Go.Proofs.Ytjikaankdnmabaa
