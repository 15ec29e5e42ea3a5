/- The document: runs by script. No condition. -/
import Derived.Test.YtjikaankdnmabaaKM
import Derived.Test.YtjikaankdnmabaaAM49
namespace Go.Proofs.Ytjikaankdnmabaa
open Go Go.AM
set_option maxRecDepth 100000
set_option maxHeartbeats 0
set_option linter.unusedVariables false
def c15l0b : ACode := sndC (sndC c15l0)
theorem c15l0_eq : c15l0 = rangeB s16 s15 s17 0 c15l0b := rfl
def c11l0b : ACode := sndC (sndC c11l0)
theorem c11l0_eq : c11l0 = rangeB s35 s34 s36 0 c11l0b := rfl
noncomputable def R40 : List V → Option V
  | [.agg [.int .i64 l, .int .i64 m, .int .i64 r], .int .i64 s] => if roB l m r s = true then some (.int .i64 (pz l m r s)) else none
  | _ => none
def SameG (A B : List (Int × List Nat × Nat)) : Prop := A.length = B.length ∧ ∀ y ∈ A, hasG B y.1 = true ∧ lookG B y.1 = y.2.1
inductive S15 : Con → Prop
  | mk (G : List (Int × List Nat × Nat)) (c2 : Nat) (ro2 : Bool) (W : List (Int × List Nat × Nat)) (c3 : Nat) (ro3 : Bool) (hs : Stamped (mV G) c2) (h : SameG G W) : S15 ⟨[.map 0, .map 1], [.map (mV G) c2 ro2, .map (mV W) c3 ro3], .bool true, [.map (mV G) c2 ro2, .map (mV W) c3 ro3], []⟩
  | nil2 : S15 ⟨[.nilmap, .nilmap], [], .bool true, [], []⟩
  | nil1 (c3 : Nat) (ro3 : Bool) : S15 ⟨[.nilmap, .map 0], [.map [] c3 ro3], .bool true, [.map [] c3 ro3], []⟩
noncomputable abbrev la11 : CF Prop := lastFn 39 R30 (lastFn 40 R40 la0)
theorem mono11 : MonoCF la11 := mono_fn (mono_fn mono_false)
noncomputable abbrev sa_s_Qa (G : LL) (c2 : Nat) (ro2 : Bool) (W : LL) (c3 : Nat) (ro3 : Bool) (t : Nat) (S : List Nat) : Mem := memL 3 [(0, oM (mV G) c2 ro2), (1, oM (mV W) c3 ro3), (2, oI (some 0) c2 (S ++ [t]) c2)]
theorem sa_s (Y : Ys Prop) (G : LL) (c2 : Nat) (ro2 : Bool) (W : LL) (c3 : Nat) (ro3 : Bool) (t : Nat) (S : List Nat) (n : Int) (g : List Nat) (hE : entryV (List.getLast? (S ++ [t])) (some (AObj.map (mV G) c2 ro2)) c2 = some (.tuple [.int .i64 n, .str g])) (hl : lookV (.one .int) true (.str []) (.int .i64 n) (mV W) = some (.tuple [.str g, .bool true])) (hg : beqL g g = true) (T : Slots) (hT : allS T [(s1, .map 1), (s4, .bool false), (s15, .ptr 2 0)]) (K : Ex → Slots → Mem → Prop) (hK : ∀ T', allS T' [(s1, .map 1), (s4, .bool false), (s15, .ptr 2 0)] → K (.normal) T' (memL 3 [(0, .map (mV G) c2 ro2), (1, .map (mV W) c3 ro3), (2, .iter (some 0) c2 (S ++ [t]) c2)])) :
   code pA (callD pA tb0 la0 5) Y c15l0b T (memL 3 [(0, .map (mV G) c2 ro2), (1, .map (mV W) c3 ro3), (2, .iter (some 0) c2 (S ++ [t]) c2)]) K :=
  code_of_vc (mono_false) (.fix s1 (V.map 1) (.fix s4 (vb false) (.fix s15 (V.ptr 2 0) (.res (V.tuple [vi n, V.str g]) (.wait 6 (.res (V.tuple [V.str g, vb true]) (.wait 11 (.fix s32 (vb false) .nil))))))))
  (show (Slots.get T s1 = V.map 1 ∧ Slots.get T s4 = vb false ∧ Slots.get T s15 = V.ptr 2 0 ∧ entryV (List.getLast? (S ++ [t])) (some (oM (mV G) c2 ro2)) c2 = some (V.tuple [vi n, V.str g]) ∧ lookV (KT.one SK.int) true (V.str []) (vi n) (mV W) = some (V.tuple [V.str g, vb true]) ∧ vb (nB (beqL g g)) = vb false ∧ Ex.normal = Ex.normal ∧ rR (sa_s_Qa G c2 ro2 W c3 ro3 t S) ∧ (V.map 1 = V.map 1 ∧ (vb false = vb false ∧ (V.ptr 2 0 = V.ptr 2 0 ∧ True)))) from
  ⟨hT.1, hT.2.1, hT.2.2.1, hE, hl, (cb (congrArg Bool.not hg)), rfl, rfl, ⟨rfl, ⟨rfl, ⟨rfl, trivial⟩⟩⟩⟩)
  (by kernel_rfl) Y K hK
noncomputable abbrev sa_Qa (G : LL) (c2 : Nat) (ro2 : Bool) (W : LL) (c3 : Nat) (ro3 : Bool) : Con := ⟨[.map 0, .map 1], [.map (mV G) c2 ro2, .map (mV W) c3 ro3], .bool true, [.map (mV G) c2 ro2, .map (mV W) c3 ro3], []⟩
noncomputable abbrev sa_Qb (G : LL) (c2 : Nat) (ro2 : Bool) (W : LL) (c3 : Nat) (ro3 : Bool) : Mem := memL 3 [(0, oM (mV G) c2 ro2), (1, oM (mV W) c3 ro3), (2, oI (some 0) c2 [] c2)]
noncomputable abbrev sa_Qc (G : LL) (c2 : Nat) (ro2 : Bool) (W : LL) (c3 : Nat) (ro3 : Bool) (z0 : EnL) : Mem := memL 3 [(0, oM (mV G) c2 ro2), (1, oM (mV W) c3 ro3), (2, oI (some 0) c2 (stamps z0) c2)]
noncomputable abbrev sa_Qd : List (Sl × V) := [(s1, V.map 1), (s4, vb false), (s15, V.ptr 2 0)]
noncomputable abbrev sa_Qe (G : LL) (c2 : Nat) (ro2 : Bool) (W : LL) (c3 : Nat) (ro3 : Bool) : Prop := LoopOk3 (callD pA tb0 la0 5) c15l0 (Ex.exit 0) (sa_Qb G c2 ro2 W c3 ro3) (sa_Qd) (fun V0 => List.Perm V0 (mV G)) (fun V0 => (sa_Qc G c2 ro2 W c3 ro3 V0)) fun V0 => (sa_Qd)
theorem sa_o0 (W : List (Int × List Nat × Nat)) : (↑(List.length (mV W)) : Int) = (↑(List.length (mV W)) : Int) := by omega
theorem sa (Y : Ys Prop) (G : LL) (c2 : Nat) (ro2 : Bool) (W : LL) (c3 : Nat) (ro3 : Bool) (hn : List.length (mV G) = List.length (mV W)) (H : sa_Qe G c2 ro2 W c3 ro3) :
   body1 pA (callD pA tb0 la0 5) Y c15 (sa_Qa G c2 ro2 W c3 ro3).args (memO (sa_Qa G c2 ro2 W c3 ro3).pre) (endC (sa_Qa G c2 ro2 W c3 ro3)) :=
  walkC_of_vc (C := (sa_Qa G c2 ro2 W c3 ro3)) (mono_false) (.wait 5 (.fix s10 (vi ↑(List.length (mV W))) (.wait 1 (.fix s13 (vb false) (.wait 3 (.inv3 (Ex.exit 0) (sa_Qb G c2 ro2 W c3 ro3) (sa_Qd) (fun v => List.Perm v (mV G)) (fun v => (sa_Qc G c2 ro2 W c3 ro3 v)) (fun v => (sa_Qd)) fun xv0 => .nil))))))
  (show (vi ↑(List.length (mV G)) = vi ↑(List.length (mV W)) ∧ vb (nB (eqI ↑(List.length (mV W)) ↑(List.length (mV W)))) = vb false ∧ rR (sa_Qb G c2 ro2 W c3 ro3) ∧ (EqZ [V.map 1, vb false, V.ptr 2 0]) ∧ (sa_Qe G c2 ro2 W c3 ro3) ∧ (∀ (xv0 : EnL), List.Perm xv0 (mV G) → ∀ (T0 : Slots), allS T0 (sa_Qd) → (vb true = vb true ∧ (rR (some (oM (mV G) c2 ro2)) ∧ (rR (some (oM (mV W) c3 ro3)) ∧ True)) ∧ True))) from
  ⟨(ci (casN hn)), cb (congrArg Bool.not (eqT rfl rfl (sa_o0 W))), rfl, (eqZ _), H, fun xv0 hq0 T0 hj0 => ⟨(by rfl), ⟨(by rfl), ⟨(by rfl), trivial⟩⟩, trivial⟩⟩)
  (by kernel_rfl) Y
noncomputable abbrev sa_2_Qa : Con := ⟨[.nilmap, .nilmap], [], .bool true, [], []⟩
theorem sa_2 (Y : Ys Prop)  :
   body1 pA (callD pA tb0 la0 5) Y c15 (sa_2_Qa).args (memO (sa_2_Qa).pre) (endC (sa_2_Qa)) :=
  walkC_of_vc (C := (sa_2_Qa)) (mono_false) .nil
  (show (vb true = vb true ∧ True ∧ True) from
  ⟨(by rfl), trivial, trivial⟩)
  (by kernel_rfl) Y
noncomputable abbrev sa_1_Qa (c3 : Nat) (ro3 : Bool) : Con := ⟨[.nilmap, .map 0], [.map [] c3 ro3], .bool true, [.map [] c3 ro3], []⟩
theorem sa_1 (Y : Ys Prop) (c3 : Nat) (ro3 : Bool) :
   body1 pA (callD pA tb0 la0 5) Y c15 (sa_1_Qa c3 ro3).args (memO (sa_1_Qa c3 ro3).pre) (endC (sa_1_Qa c3 ro3)) :=
  walkC_of_vc (C := (sa_1_Qa c3 ro3)) (mono_false) .nil
  (show (vb true = vb true ∧ (rR (some (oM [] c3 ro3)) ∧ True) ∧ True) from
  ⟨(by rfl), ⟨(by rfl), trivial⟩, trivial⟩)
  (by kernel_rfl) Y
theorem qpar_2 (Y : Ys Prop) (m r s : Int) (K : V → Mem → Prop) (hK : ∀ mm, K (.int .i64 1) mm) :
   body1 pA (callD pA tb0 la0 5) Y c40 [geo 1 m r, .int .i64 s] ⟨0, .leaf⟩ K :=
  walk_of_vc (mono_false) .nil
  (show (vi (Int.ofNat 1) = vi 1) from
  (by rfl))
  (by kernel_rfl) Y K hK
theorem qp_s_o0 (s : Int) (b1 : (0 : Int) ≤ s) (b2 : s < (64 : Int)) : (0 : Int) ≤ s := by omega
theorem qp_s_o1 (s : Int) (b1 : (0 : Int) ≤ s) (b2 : s < (64 : Int)) : (-9223372036854775808 : Int) ≤ s / (2 : Int) := by omega
theorem qp_s_o2 (s : Int) (b1 : (0 : Int) ≤ s) (b2 : s < (64 : Int)) : s / (2 : Int) ≤ (9223372036854775807 : Int) := by omega
theorem qp_s_o3 (s : Int) (i : Nat) (b1 : (0 : Int) ≤ s) (b2 : s < (64 : Int)) (hi : (↑i : Int) < s / (2 : Int)) : (↑i : Int) < s / (2 : Int) := by omega
theorem qp_s_o4 (i : Nat) : (-9223372036854775808 : Int) ≤ (↑(i + (1 : Nat)) : Int) := by omega
theorem qp_s (Y : Ys Prop) (m r s q : Int) (b1 : 0 ≤ s) (b2 : s < 64) (m4 : m ≤ 4) (q3 : q ≤ 3) (i : Nat) (hi : ((i : Nat) : Int) < s / 2) (q0 : 1 ≤ q) (q1 : Int) (hq : q - 1 = q1) (T : Slots) (hT : allS T [(s1, .int .i64 s), (s2, .ptr 0 0), (s5, .int .i64 q), (s6, .int .i64 ((i : Nat) : Int))]) (K : Ex → Slots → Mem → Prop) (hK : ∀ T', allS T' [(s1, .int .i64 s), (s2, .ptr 0 0), (s5, .int .i64 q1), (s6, .int .i64 ((i + 1 : Nat) : Int))] → K (.normal) T' (memL 1 [(0, .cells [.int .i64 5, .int .i64 m, .int .i64 r] false)])) :
   code pA (callD pA tb0 la0 5) Y c40l0 T (memL 1 [(0, .cells [.int .i64 5, .int .i64 m, .int .i64 r] false)]) K :=
  code_of_vc (mono_false) (.fix s1 (vi s) (.fix s2 (V.ptr 0 0) (.fix s5 (vi q) (.fix s6 (vi ↑i) (.wait 3 (.fix s15 (vi (s / 2)) (.wait 1 (.fix s16 (vb true) (.wait 3 (.fix s20 (vi q1) (.wait 3 (.fix s22 (vb false) (.wait 3 (.fix s18 (vi ↑(i + 1)) .nil))))))))))))))
  (show (Slots.get T s1 = vi s ∧ Slots.get T s2 = V.ptr 0 0 ∧ Slots.get T s5 = vi q ∧ Slots.get T s6 = vi ↑i ∧ vi (wr IntKind.i64 (Int.tdiv s 2)) = vi (s / 2) ∧ vb (ltI (↑i) (s / 2)) = vb true ∧ vi (wr IntKind.i64 (subI q 1)) = vi q1 ∧ vb (ltI q1 0) = vb false ∧ vi (wr IntKind.i64 (addI (↑i) 1)) = vi ↑(i + 1) ∧ Ex.normal = Ex.normal ∧ memL 1 [(0, oC [vi (Int.ofNat 5), vi m, vi r] false)] = memL 1 [(0, oC [vi 5, vi m, vi r] false)] ∧ (vi s = vi s ∧ (V.ptr 0 0 = V.ptr 0 0 ∧ (vi q1 = vi q1 ∧ (vi ↑(i + 1) = vi ↑(i + 1) ∧ True))))) from
  ⟨hT.1, hT.2.1, hT.2.2.1, hT.2.2.2.1, (ci (wE_i64 (tdivE rfl rfl (qp_s_o0 s b1 b2)) (qp_s_o1 s b1 b2) (qp_s_o2 s b1 b2))), cb (ltT rfl rfl (qp_s_o3 s i b1 b2 hi)), (ci (wE_i64 ((subE rfl rfl).trans hq) (by omega) (by omega))), cb (ltF rfl rfl (by omega)), (ci (wE_i64 (addN (a := i) (b := 1) rfl rfl) (qp_s_o4 i) (by omega))), rfl, rfl, ⟨rfl, ⟨rfl, ⟨rfl, ⟨rfl, trivial⟩⟩⟩⟩⟩)
  (by kernel_rfl) Y K hK
theorem qp_w_o4 (q : Int) (q3 : q ≤ (3 : Int)) (q0 : q = (0 : Int)) : (-9223372036854775808 : Int) ≤ q - (1 : Int) := by omega
theorem qp_w_o5 (q : Int) (q3 : q ≤ (3 : Int)) (q0 : q = (0 : Int)) : q - (1 : Int) ≤ (9223372036854775807 : Int) := by omega
theorem qp_w_o6 (q : Int) (q3 : q ≤ (3 : Int)) (q0 : q = (0 : Int)) : q - (1 : Int) < (0 : Int) := by omega
theorem qp_w (Y : Ys Prop) (m r s q : Int) (b1 : 0 ≤ s) (b2 : s < 64) (m4 : m ≤ 4) (q3 : q ≤ 3) (i : Nat) (hi : ((i : Nat) : Int) < s / 2) (m1 : 1 ≤ m) (q0 : q = 0) (q1 : Int) (hq : m - 1 = q1) (T : Slots) (hT : allS T [(s1, .int .i64 s), (s2, .ptr 0 0), (s5, .int .i64 q), (s6, .int .i64 ((i : Nat) : Int))]) (K : Ex → Slots → Mem → Prop) (hK : ∀ T', allS T' [(s1, .int .i64 s), (s2, .ptr 0 0), (s5, .int .i64 q1), (s6, .int .i64 ((i + 1 : Nat) : Int))] → K (.normal) T' (memL 1 [(0, .cells [.int .i64 5, .int .i64 m, .int .i64 r] false)])) :
   code pA (callD pA tb0 la0 5) Y c40l0 T (memL 1 [(0, .cells [.int .i64 5, .int .i64 m, .int .i64 r] false)]) K :=
  code_of_vc (mono_false) (.fix s1 (vi s) (.fix s2 (V.ptr 0 0) (.fix s5 (vi q) (.fix s6 (vi ↑i) (.wait 3 (.fix s15 (vi (s / 2)) (.wait 1 (.fix s16 (vb true) (.wait 3 (.fix s20 (vi (q - 1)) (.wait 3 (.fix s22 (vb true) (.wait 4 (.fix s25 (vi q1) (.wait 3 (.fix s18 (vi ↑(i + 1)) .nil))))))))))))))))
  (show (Slots.get T s1 = vi s ∧ Slots.get T s2 = V.ptr 0 0 ∧ Slots.get T s5 = vi q ∧ Slots.get T s6 = vi ↑i ∧ vi (wr IntKind.i64 (Int.tdiv s 2)) = vi (s / 2) ∧ vb (ltI (↑i) (s / 2)) = vb true ∧ vi (wr IntKind.i64 (subI q 1)) = vi (q - 1) ∧ vb (ltI (q - 1) 0) = vb true ∧ vi (wr IntKind.i64 (subI m 1)) = vi q1 ∧ vi (wr IntKind.i64 (addI (↑i) 1)) = vi ↑(i + 1) ∧ Ex.normal = Ex.normal ∧ memL 1 [(0, oC [vi (Int.ofNat 5), vi m, vi r] false)] = memL 1 [(0, oC [vi 5, vi m, vi r] false)] ∧ (vi s = vi s ∧ (V.ptr 0 0 = V.ptr 0 0 ∧ (vi q1 = vi q1 ∧ (vi ↑(i + 1) = vi ↑(i + 1) ∧ True))))) from
  ⟨hT.1, hT.2.1, hT.2.2.1, hT.2.2.2.1, (ci (wE_i64 (tdivE rfl rfl (qp_s_o0 s b1 b2)) (qp_s_o1 s b1 b2) (qp_s_o2 s b1 b2))), cb (ltT rfl rfl (qp_s_o3 s i b1 b2 hi)), (ci (wE_i64 (subE rfl rfl) (qp_w_o4 q q3 q0) (qp_w_o5 q q3 q0))), cb (ltT rfl rfl (qp_w_o6 q q3 q0)), (ci (wE_i64 ((subE rfl rfl).trans hq) (by omega) (by omega))), (ci (wE_i64 (addN (a := i) (b := 1) rfl rfl) (qp_s_o4 i) (by omega))), rfl, rfl, ⟨rfl, ⟨rfl, ⟨rfl, ⟨rfl, trivial⟩⟩⟩⟩⟩)
  (by kernel_rfl) Y K hK
theorem qp_e_o3 (s : Int) (i : Nat) (b1 : (0 : Int) ≤ s) (b2 : s < (64 : Int)) (hi : s / (2 : Int) ≤ (↑i : Int)) : ¬(↑i : Int) < s / (2 : Int) := by omega
theorem qp_e (Y : Ys Prop) (m r s q : Int) (b1 : 0 ≤ s) (b2 : s < 64) (m4 : m ≤ 4) (q3 : q ≤ 3) (i : Nat) (hi : s / 2 ≤ ((i : Nat) : Int)) (T : Slots) (hT : allS T [(s1, .int .i64 s), (s2, .ptr 0 0), (s5, .int .i64 q), (s6, .int .i64 ((i : Nat) : Int))]) (K : Ex → Slots → Mem → Prop) (hK : ∀ T', allS T' [(s1, .int .i64 s), (s2, .ptr 0 0), (s5, .int .i64 q), (s6, .int .i64 ((i : Nat) : Int))] → K (.exit 0) T' (memL 1 [(0, .cells [.int .i64 5, .int .i64 m, .int .i64 r] false)])) :
   code pA (callD pA tb0 la0 5) Y c40l0 T (memL 1 [(0, .cells [.int .i64 5, .int .i64 m, .int .i64 r] false)]) K :=
  code_of_vc (mono_false) (.fix s1 (vi s) (.fix s2 (V.ptr 0 0) (.fix s5 (vi q) (.fix s6 (vi ↑i) (.wait 3 (.fix s15 (vi (s / 2)) (.wait 1 (.fix s16 (vb false) .nil))))))))
  (show (Slots.get T s1 = vi s ∧ Slots.get T s2 = V.ptr 0 0 ∧ Slots.get T s5 = vi q ∧ Slots.get T s6 = vi ↑i ∧ vi (wr IntKind.i64 (Int.tdiv s 2)) = vi (s / 2) ∧ vb (ltI (↑i) (s / 2)) = vb false ∧ Ex.exit 0 = Ex.exit 0 ∧ memL 1 [(0, oC [vi (Int.ofNat 5), vi m, vi r] false)] = memL 1 [(0, oC [vi 5, vi m, vi r] false)] ∧ (vi s = vi s ∧ (V.ptr 0 0 = V.ptr 0 0 ∧ (vi q = vi q ∧ (vi ↑i = vi ↑i ∧ True))))) from
  ⟨hT.1, hT.2.1, hT.2.2.1, hT.2.2.2.1, (ci (wE_i64 (tdivE rfl rfl (qp_s_o0 s b1 b2)) (qp_s_o1 s b1 b2) (qp_s_o2 s b1 b2))), cb (ltF rfl rfl (qp_e_o3 s i b1 b2 hi)), rfl, rfl, ⟨rfl, ⟨rfl, ⟨rfl, ⟨rfl, trivial⟩⟩⟩⟩⟩)
  (by kernel_rfl) Y K hK
noncomputable abbrev qpar_5_Qa (s p : Int) : List (Sl × V) := [(s1, vi s), (s2, V.ptr 0 0), (s5, vi p), (s6, vi ↑0)]
noncomputable abbrev qpar_5_Qb (s q : Int) (j : Nat) : List (Sl × V) := [(s1, vi s), (s2, V.ptr 0 0), (s5, vi q), (s6, vi ↑j)]
noncomputable abbrev qpar_5_Qc (m r s q p : Int) (j : Nat) : Prop := LoopOk2 (callD pA tb0 la0 5) c40l0 (Ex.exit 0) (memL 1 [(0, oC [vi 5, vi m, vi r] false)]) (qpar_5_Qa s p) (memL 1 [(0, oC [vi 5, vi m, vi r] false)]) (qpar_5_Qb s q j)
theorem qpar_5 (Y : Ys Prop) (m r s q p : Int) (m1 : 1 ≤ m) (m4 : m ≤ 4) (hp : m - 1 = p) (j : Nat) (H : qpar_5_Qc m r s q p j) (K : V → Mem → Prop) (hK : ∀ mm, K (.int .i64 q) mm) :
   body1 pA (callD pA tb0 la0 5) Y c40 [geo 5 m r, .int .i64 s] ⟨0, .leaf⟩ K :=
  walk_of_vc (mono_false) (.wait 9 (.fix s12 (vi p) (.wait 2 (.inv2 (Ex.exit 0) (memL 1 [(0, oC [vi 5, vi m, vi r] false)]) (qpar_5_Qa s p) (memL 1 [(0, oC [vi 5, vi m, vi r] false)]) (qpar_5_Qb s q j) (.fix s1 (vi s) (.fix s2 (V.ptr 0 0) (.fix s5 (vi q) (.fix s6 (vi ↑j) .nil))))))))
  (show (vi (wr IntKind.i64 (subI m 1)) = vi p ∧ memL 1 [(0, oC [vi (Int.ofNat 5), vi m, vi r] false)] = memL 1 [(0, oC [vi 5, vi m, vi r] false)] ∧ (EqZ [vi s, V.ptr 0 0, vi p, vi ↑0]) ∧ (qpar_5_Qc m r s q p j) ∧ (∀ (T0 : Slots), allS T0 (qpar_5_Qb s q j) → (Slots.get T0 s1 = vi s ∧ Slots.get T0 s2 = V.ptr 0 0 ∧ Slots.get T0 s5 = vi q ∧ Slots.get T0 s6 = vi ↑j ∧ vi q = vi q))) from
  ⟨(ci (wE_i64 ((subE rfl rfl).trans hp) (by omega) (by omega))), rfl, (eqZ _), H, fun T0 hj0 => ⟨hj0.1, hj0.2.1, hj0.2.2.1, hj0.2.2.2.1, (by rfl)⟩⟩)
  (by kernel_rfl) Y K hK
noncomputable abbrev qn_g_Qa (l m r : Int) (b0 b1 b2 b3 : Bool) (L : LL) (c : Nat) (ro : Bool) (t : Nat) (S : List Nat) : Mem := memL 4 [(0, oM (mV L) c ro), (1, oC [vi l, vi m, vi r] false), (2, oC (inP b0 b1 b2 b3) false), (3, oI (some 0) c (S ++ [t]) c)]
theorem qn_g_o0 (n : Int) (z0 : (0 : Int) ≤ n) : ¬n < (0 : Int) := by omega
theorem qn_g_o1 (m : Int) (n : Int) (z0 : (0 : Int) ≤ n) (z1 : n < m) : n < m := by omega
theorem qn_g_o2 (p : Int) (n : Int) (z0 : (0 : Int) ≤ n) (zp : n ≠ p) : ¬n = p := by omega
theorem qn_g (Y : Ys Prop) (l m r s : Int) (b0 b1 b2 b3 : Bool) (L : LL) (c : Nat) (ro : Bool) (p : Int) (t : Nat) (S : List Nat) (n : Int) (g : List Nat) (hE : entryV (List.getLast? (S ++ [t])) (some (AObj.map (mV L) c ro)) c = some (.tuple [.int .i64 n, .str g])) (z0 : 0 ≤ n) (z1 : n < m) (zp : n ≠ p) (hg : List.length g = 64) (T : Slots) (hT : allS T [(s1, .int .i64 s), (s3, .map 0), (s4, .ptr 1 0), (s6, .ptr 2 0), (s11, .int .i64 p), (s34, .ptr 3 0)]) (K : Ex → Slots → Mem → Prop) (hK : ∀ T', allS T' [(s1, .int .i64 s), (s3, .map 0), (s4, .ptr 1 0), (s6, .ptr 2 0), (s11, .int .i64 p), (s34, .ptr 3 0)] → K (.normal) T' (memL 4 [(0, .map (mV L) c ro), (1, .cells [.int .i64 l, .int .i64 m, .int .i64 r] false), (2, .cells (inP b0 b1 b2 b3) false), (3, .iter (some 0) c (S ++ [t]) c)])) :
   code pA (callD pA tb0 la11 5) Y c11l0b T (memL 4 [(0, .map (mV L) c ro), (1, .cells [.int .i64 l, .int .i64 m, .int .i64 r] false), (2, .cells (inP b0 b1 b2 b3) false), (3, .iter (some 0) c (S ++ [t]) c)]) K :=
  code_of_vc (mono11) (.fix s1 (vi s) (.fix s3 (V.map 0) (.fix s4 (V.ptr 1 0) (.fix s6 (V.ptr 2 0) (.fix s11 (vi p) (.fix s34 (V.ptr 3 0) (.res (V.tuple [vi n, V.str g]) (.wait 6 (.fix s41 (vb false) (.wait 5 (.fix s46 (vb false) (.wait 5 (.fix s51 (vb false) (.wait 4 (.fix s55 (vi ↑64) .nil)))))))))))))))
  (show (Slots.get T s1 = vi s ∧ Slots.get T s3 = V.map 0 ∧ Slots.get T s4 = V.ptr 1 0 ∧ Slots.get T s6 = V.ptr 2 0 ∧ Slots.get T s11 = vi p ∧ Slots.get T s34 = V.ptr 3 0 ∧ entryV (List.getLast? (S ++ [t])) (some (oM (mV L) c ro)) c = some (V.tuple [vi n, V.str g]) ∧ vb (ltI n 0) = vb false ∧ vb (nB (ltI n m)) = vb false ∧ vb (eqI n p) = vb false ∧ vi ↑(List.length g) = vi ↑64 ∧ Ex.normal = Ex.normal ∧ rR (qn_g_Qa l m r b0 b1 b2 b3 L c ro t S) ∧ (vi s = vi s ∧ (V.map 0 = V.map 0 ∧ (V.ptr 1 0 = V.ptr 1 0 ∧ (V.ptr 2 0 = V.ptr 2 0 ∧ (vi p = vi p ∧ (V.ptr 3 0 = V.ptr 3 0 ∧ True))))))) from
  ⟨hT.1, hT.2.1, hT.2.2.1, hT.2.2.2.1, hT.2.2.2.2.1, hT.2.2.2.2.2.1, hE, (cb (ltF rfl rfl (qn_g_o0 n z0))), (cb (congrArg Bool.not (ltT rfl rfl (qn_g_o1 m n z0 z1)))), (cb (eqF rfl rfl (qn_g_o2 p n z0 zp))), (ci (casN hg)), rfl, rfl, ⟨rfl, ⟨rfl, ⟨rfl, ⟨rfl, ⟨rfl, ⟨rfl, trivial⟩⟩⟩⟩⟩⟩⟩)
  (by kernel_rfl) Y K hK
theorem qn_b (Y : Ys Prop) (l m r s : Int) (b0 b1 b2 b3 : Bool) (L : LL) (c : Nat) (ro : Bool) (p : Int) (t : Nat) (S : List Nat) (n : Int) (g : List Nat) (hE : entryV (List.getLast? (S ++ [t])) (some (AObj.map (mV L) c ro)) c = some (.tuple [.int .i64 n, .str g])) (zb : n < 0 ∨ m ≤ n ∨ n = p ∨ List.length g ≠ 64) (T : Slots) (hT : allS T [(s1, .int .i64 s), (s3, .map 0), (s4, .ptr 1 0), (s6, .ptr 2 0), (s11, .int .i64 p), (s34, .ptr 3 0)]) (K : Ex → Slots → Mem → Prop) (hK : ∀ T', allS T' [(s8, .nilslice), (s9, .int .i64 1)] → K (.ret) T' (memL 4 [(0, .map (mV L) c ro), (1, .cells [.int .i64 l, .int .i64 m, .int .i64 r] false), (2, .cells (inP b0 b1 b2 b3) false), (3, .iter (some 0) c (S ++ [t]) c)])) :
   code pA (callD pA tb0 la11 5) Y c11l0b T (memL 4 [(0, .map (mV L) c ro), (1, .cells [.int .i64 l, .int .i64 m, .int .i64 r] false), (2, .cells (inP b0 b1 b2 b3) false), (3, .iter (some 0) c (S ++ [t]) c)]) K :=
  code_of_vc (mono11) (.fix s1 (vi s) (.fix s3 (V.map 0) (.fix s4 (V.ptr 1 0) (.fix s6 (V.ptr 2 0) (.fix s11 (vi p) (.fix s34 (V.ptr 3 0) (.res (V.tuple [vi n, V.str g]) (.wait 7 (.split s42 (decide (n < 0)) .nil (.wait 6 (.split s48 (decide ¬n < m) .nil (.wait 5 (.split s53 (decide (n = p)) .nil (.wait 3 (.fix s56 (vb true) .nil)))))))))))))))
  (show (Slots.get T s1 = vi s ∧ Slots.get T s3 = V.map 0 ∧ Slots.get T s4 = V.ptr 1 0 ∧ Slots.get T s6 = V.ptr 2 0 ∧ Slots.get T s11 = vi p ∧ Slots.get T s34 = V.ptr 3 0 ∧ entryV (List.getLast? (S ++ [t])) (some (oM (mV L) c ro)) c = some (V.tuple [vi n, V.str g]) ∧ vb (ltI n 0) = vb (decide (n < 0)) ∧ ((decide (n < 0)) = true → (Ex.ret = Ex.ret ∧ rR (qn_g_Qa l m r b0 b1 b2 b3 L c ro t S) ∧ (V.nilslice = V.nilslice ∧ (vi (Int.ofNat 1) = vi 1 ∧ True)))) ∧ ((decide (n < 0)) = false → (vb (nB (ltI n m)) = vb (decide ¬n < m) ∧ ((decide ¬n < m) = true → (Ex.ret = Ex.ret ∧ rR (qn_g_Qa l m r b0 b1 b2 b3 L c ro t S) ∧ (V.nilslice = V.nilslice ∧ (vi (Int.ofNat 1) = vi 1 ∧ True)))) ∧ ((decide ¬n < m) = false → (vb (eqI n p) = vb (decide (n = p)) ∧ ((decide (n = p)) = true → (Ex.ret = Ex.ret ∧ rR (qn_g_Qa l m r b0 b1 b2 b3 L c ro t S) ∧ (V.nilslice = V.nilslice ∧ (vi (Int.ofNat 1) = vi 1 ∧ True)))) ∧ ((decide (n = p)) = false → (vb (nB (eqI (↑(List.length g)) 64)) = vb true ∧ Ex.ret = Ex.ret ∧ rR (qn_g_Qa l m r b0 b1 b2 b3 L c ro t S) ∧ (V.nilslice = V.nilslice ∧ (vi (Int.ofNat 1) = vi 1 ∧ True))))))))) from
  ⟨hT.1, hT.2.1, hT.2.2.1, hT.2.2.2.1, hT.2.2.2.2.1, hT.2.2.2.2.2.1, hE, cb (ltD rfl rfl), (sT fun p0 => ⟨rfl, rfl, ⟨rfl, ⟨rfl, trivial⟩⟩⟩), (sF fun p0 => ⟨cb ((congrArg Bool.not (ltD rfl rfl)).trans (notD _)), (sT fun p1 => ⟨rfl, rfl, ⟨rfl, ⟨rfl, trivial⟩⟩⟩), (sF fun p1 => ⟨cb (eqD rfl rfl), (sT fun p2 => ⟨rfl, rfl, ⟨rfl, ⟨rfl, trivial⟩⟩⟩), (sF fun p2 => ⟨(cb (congrArg Bool.not (eqF rfl rfl (by omega)))), rfl, rfl, ⟨rfl, ⟨rfl, trivial⟩⟩⟩)⟩)⟩)⟩)
  (by kernel_rfl) Y K hK
end Go.Proofs.Ytjikaankdnmabaa
