/- The document's sectors: runs by script. No condition. -/
import Derived.Test.YtjikaankdnmabaaXJ
namespace Go.Proofs.Ytjikaankdnmabaa
open Go Go.AM
set_option maxRecDepth 100000
set_option maxHeartbeats 0
set_option linter.unusedVariables false
inductive S45 : Con → Prop
  | mk (G : List (Int × List Nat × Nat)) (c2 : Nat) (ro2 : Bool) (ys : List Int) (j : Nat) (hj : ys.length = j) (h1 : 1 ≤ j) (h4 : j ≤ 4) (hh : hasAll G ys = true) : S45 ⟨[.map 0, .slice 1 0 j j 1], [.map (mV G) c2 ro2, .cells (iV ys) false], .tuple [.slice 2 0 j j 1, .bool true], [.map (mV G) c2 ro2, .cells (iV ys) false], [(2, .cells (stV (ys.map (lookG G))) false)]⟩
  | bad (G : List (Int × List Nat × Nat)) (c2 : Nat) (ro2 : Bool) (ys : List Int) (j : Nat) (hj : ys.length = j) (h1 : 1 ≤ j) (h4 : j ≤ 4) (hh : hasAll G ys = false) : S45 ⟨[.map 0, .slice 1 0 j j 1], [.map (mV G) c2 ro2, .cells (iV ys) false], .tuple [.nilslice, .bool false], [.map (mV G) c2 ro2, .cells (iV ys) false], []⟩
  | nil (G : List (Int × List Nat × Nat)) (c2 : Nat) (ro2 : Bool) : S45 ⟨[.map 0, .nilslice], [.map (mV G) c2 ro2], .tuple [.nilslice, .bool true], [.map (mV G) c2 ro2], []⟩
inductive S45g : Con → Prop
  | mk (gv : V) (G : List (Int × List Nat × Nat)) (c2 : Nat) (ro2 : Bool) (hv : GvOk gv G) (ys : List Int) (j : Nat) (hj : ys.length = j) (h1 : 1 ≤ j) (h4 : j ≤ 4) (hh : hasAll G ys = true) : S45g ⟨[gv, .slice 0 0 j j 1], [.cells (iV ys) false, .map (mV G) c2 ro2], .tuple [.slice 2 0 j j 1, .bool true], [.cells (iV ys) false, .map (mV G) c2 ro2], [(2, .cells (stV (ys.map (lookG G))) false)]⟩
  | bad (gv : V) (G : List (Int × List Nat × Nat)) (c2 : Nat) (ro2 : Bool) (hv : GvOk gv G) (ys : List Int) (j : Nat) (hj : ys.length = j) (h1 : 1 ≤ j) (h4 : j ≤ 4) (hh : hasAll G ys = false) : S45g ⟨[gv, .slice 0 0 j j 1], [.cells (iV ys) false, .map (mV G) c2 ro2], .tuple [.nilslice, .bool false], [.cells (iV ys) false, .map (mV G) c2 ro2], []⟩
  | nil (gv : V) (G : List (Int × List Nat × Nat)) (c2 : Nat) (ro2 : Bool) (hv : GvOk gv G) (L : List (Int × List Nat × Nat)) (c : Nat) (ro : Bool) : S45g ⟨[gv, .nilslice], [.map (mV L) c ro, .map (mV G) c2 ro2], .tuple [.nilslice, .bool true], [.map (mV L) c ro, .map (mV G) c2 ro2], []⟩
noncomputable abbrev al_n_Qa (G : LL) (c2 : Nat) (ro2 : Bool) (ys : List Int) (t : List Nat) : Mem := memL 5 [(0, oM (mV G) c2 ro2), (1, oC (iV ys) false), (2, AObj.dead), (3, oC [V.str t] false), (4, oC [V.str t] false)]
theorem al_n_o0 (j : Nat) (i : Nat) (j4 : j ≤ (4 : Nat)) (hi : i < j) : (↑i : Int) < (↑j : Int) := by omega
theorem al_n_o1 (j : Nat) (i : Nat) (j4 : j ≤ (4 : Nat)) (hi : i < j) : i < j := by omega
theorem al_n_o2 (i : Nat) : (-9223372036854775808 : Int) ≤ (↑(i + (1 : Nat)) : Int) := by omega
theorem al_n (Y : Ys Prop) (G : LL) (c2 : Nat) (ro2 : Bool) (ys : List Int) (j : Nat) (j4 : j ≤ 4) (i : Nat) (hi : i < j) (d : Int) (t : List Nat) (hn : nth (iV ys) i = some (.int .i64 d)) (hl : lookV (.one .int) false (.str []) (.int .i64 d) (mV G) = some (.str t)) (ht : List.length t = 64) (T : Slots) (hT : allS T [(s0, .map 0), (s1, .slice 1 0 j j 1), (s4, .nilslice), (s5, .bool false), (s6, .nilslice), (s7, .int .i64 ((i : Nat) : Int))]) (K : Ex → Slots → Mem → Prop) (hK : ∀ T', allS T' [(s0, .map 0), (s1, .slice 1 0 j j 1), (s4, .nilslice), (s5, .bool false), (s6, .slice 4 0 1 1 1), (s7, .int .i64 ((i + 1 : Nat) : Int))] → K (.normal) T' (memL 5 [(0, .map (mV G) c2 ro2), (1, .cells (iV ys) false), (2, .dead), (3, .cells [.str t] false), (4, .cells [.str t] false)])) :
   code pA (callD pA tb0 la0 5) Y c45l0 T (memL 3 [(0, .map (mV G) c2 ro2), (1, .cells (iV ys) false), (2, .dead)]) K :=
  code_of_vc (mono_false) (.fix s0 (V.map 0) (.fix s1 (V.slice 1 0 j j 1) (.fix s4 (V.nilslice) (.fix s5 (vb false) (.fix s6 (V.nilslice) (.fix s7 (vi ↑i) (.wait 4 (.fix s11 (vb true) (.wait 4 (.res (V.ptr 1 i) (.res (vi d) (.res (V.str t) (.wait 1 (.fix s20 (vi ↑64) (.wait 6 (.res (V.ptr 1 i) (.res (vi d) (.res (V.str t) (.wait 5 (.fix s13 (vi ↑(i + 1)) .nil))))))))))))))))))))
  (show (Slots.get T s0 = V.map 0 ∧ Slots.get T s1 = V.slice 1 0 j j 1 ∧ Slots.get T s4 = V.nilslice ∧ Slots.get T s5 = vb false ∧ Slots.get T s6 = V.nilslice ∧ Slots.get T s7 = vi ↑i ∧ vb (ltI ↑i ↑j) = vb true ∧ iaddrV 1 (V.slice 1 0 j j 1) (vi ↑i) = some (V.ptr 1 i) ∧ nth (iV ys) (i) = some (vi d) ∧ lookV (KT.one SK.int) false (V.str []) (vi d) (mV G) = some (V.str t) ∧ vi ↑(List.length t) = vi ↑64 ∧ iaddrV 1 (V.slice 1 0 j j 1) (vi ↑i) = some (V.ptr 1 i) ∧ nth (iV ys) (i) = some (vi d) ∧ lookV (KT.one SK.int) false (V.str []) (vi d) (mV G) = some (V.str t) ∧ vi (wr IntKind.i64 (addI (↑i) 1)) = vi ↑(i + 1) ∧ Ex.normal = Ex.normal ∧ rR (al_n_Qa G c2 ro2 ys t) ∧ (V.map 0 = V.map 0 ∧ (rR (V.slice 1 0 j j 1) ∧ (V.nilslice = V.nilslice ∧ (vb false = vb false ∧ (rR (V.slice 4 0 1 1 1) ∧ (vi ↑(i + 1) = vi ↑(i + 1) ∧ True))))))) from
  ⟨hT.1, hT.2.1, hT.2.2.1, hT.2.2.2.1, hT.2.2.2.2.1, hT.2.2.2.2.2.1, cb (ltT rfl rfl (al_n_o0 j i j4 hi)), (iaddr_ok1 (i := i) rfl (al_n_o1 j i j4 hi)), hn, hl, (ci (casN ht)), (iaddr_ok1 (i := i) rfl (al_n_o1 j i j4 hi)), hn, hl, (ci (wE_i64 (addN (a := i) (b := 1) rfl rfl) (al_n_o2 i) (by omega))), rfl, rfl, ⟨rfl, ⟨rfl, ⟨rfl, ⟨rfl, ⟨rfl, ⟨rfl, trivial⟩⟩⟩⟩⟩⟩⟩)
  (by kernel_rfl) Y K hK
noncomputable abbrev al_s_Qa (G : LL) (c2 : Nat) (ro2 : Bool) (ys : List Int) (t : List Nat) (A1 : List (List Nat)) : Mem := memL 5 [(0, oM (mV G) c2 ro2), (1, oC (iV ys) false), (2, AObj.dead), (3, oC [V.str t] false), (4, oC (stV A1) false)]
theorem al_s (Y : Ys Prop) (G : LL) (c2 : Nat) (ro2 : Bool) (ys : List Int) (j : Nat) (j4 : j ≤ 4) (i : Nat) (hi : i < j) (d : Int) (t : List Nat) (hn : nth (iV ys) i = some (.int .i64 d)) (hl : lookV (.one .int) false (.str []) (.int .i64 d) (mV G) = some (.str t)) (ht : List.length t = 64) (a : Nat) (A A1 : List (List Nat)) (ha : a ≤ 4) (hg : growV 1 16 1 [.str t] 0 a a (stV A) = some (stV A1)) (T : Slots) (hT : allS T [(s0, .map 0), (s1, .slice 1 0 j j 1), (s4, .nilslice), (s5, .bool false), (s6, .slice 2 0 a a 1), (s7, .int .i64 ((i : Nat) : Int))]) (K : Ex → Slots → Mem → Prop) (hK : ∀ T', allS T' [(s0, .map 0), (s1, .slice 1 0 j j 1), (s4, .nilslice), (s5, .bool false), (s6, .slice 4 0 (a + 1) (a + 1) 1), (s7, .int .i64 ((i + 1 : Nat) : Int))] → K (.normal) T' (memL 5 [(0, .map (mV G) c2 ro2), (1, .cells (iV ys) false), (2, .dead), (3, .cells [.str t] false), (4, .cells (stV A1) false)])) :
   code pA (callD pA tb0 la0 5) Y c45l0 T (memL 3 [(0, .map (mV G) c2 ro2), (1, .cells (iV ys) false), (2, .cells (stV A) false)]) K :=
  code_of_vc (mono_false) (.fix s0 (V.map 0) (.fix s1 (V.slice 1 0 j j 1) (.fix s4 (V.nilslice) (.fix s5 (vb false) (.fix s6 (V.slice 2 0 a a 1) (.fix s7 (vi ↑i) (.wait 4 (.fix s11 (vb true) (.wait 4 (.res (V.ptr 1 i) (.res (vi d) (.res (V.str t) (.wait 1 (.fix s20 (vi ↑64) (.wait 6 (.res (V.ptr 1 i) (.res (vi d) (.res (V.str t) (.wait 1 (.grow (Opd.t s22) (Opd.t s29) 1 16 2 (0) (a) (a) (stV A) (1) ([V.str t]) (stV A1) (.wait 3 (.fix s13 (vi ↑(i + 1)) .nil))))))))))))))))))))))
  (show (Slots.get T s0 = V.map 0 ∧ Slots.get T s1 = V.slice 1 0 j j 1 ∧ Slots.get T s4 = V.nilslice ∧ Slots.get T s5 = vb false ∧ Slots.get T s6 = V.slice 2 0 a a 1 ∧ Slots.get T s7 = vi ↑i ∧ vb (ltI ↑i ↑j) = vb true ∧ iaddrV 1 (V.slice 1 0 j j 1) (vi ↑i) = some (V.ptr 1 i) ∧ nth (iV ys) (i) = some (vi d) ∧ lookV (KT.one SK.int) false (V.str []) (vi d) (mV G) = some (V.str t) ∧ vi ↑(List.length t) = vi ↑64 ∧ iaddrV 1 (V.slice 1 0 j j 1) (vi ↑i) = some (V.ptr 1 i) ∧ nth (iV ys) (i) = some (vi d) ∧ lookV (KT.one SK.int) false (V.str []) (vi d) (mV G) = some (V.str t) ∧ rR (lApp 1 16 (Opd.t s22) (Opd.t s29)) ∧ rR (V.slice 2 0 a a 1) ∧ true = true ∧ some (1) = some (1) ∧ rR (some ([V.str t])) ∧ rR (some (oC (stV A) false)) ∧ growV 1 16 1 [V.str t] 0 a a (stV A) = some (stV A1) ∧ (vi (wr IntKind.i64 (addI (↑i) 1)) = vi ↑(i + 1) ∧ Ex.normal = Ex.normal ∧ rR (al_s_Qa G c2 ro2 ys t A1) ∧ (V.map 0 = V.map 0 ∧ (rR (V.slice 1 0 j j 1) ∧ (V.nilslice = V.nilslice ∧ (vb false = vb false ∧ (rR (V.slice 4 0 (a + 1) (a + 1) 1) ∧ (vi ↑(i + 1) = vi ↑(i + 1) ∧ True)))))))) from
  ⟨hT.1, hT.2.1, hT.2.2.1, hT.2.2.2.1, hT.2.2.2.2.1, hT.2.2.2.2.2.1, cb (ltT rfl rfl (al_n_o0 j i j4 hi)), (iaddr_ok1 (i := i) rfl (al_n_o1 j i j4 hi)), hn, hl, (ci (casN ht)), (iaddr_ok1 (i := i) rfl (al_n_o1 j i j4 hi)), hn, hl, rfl, rfl, rfl, rfl, rfl, rfl, hg, ⟨(ci (wE_i64 (addN (a := i) (b := 1) rfl rfl) (al_n_o2 i) (by omega))), rfl, rfl, ⟨rfl, ⟨rfl, ⟨rfl, ⟨rfl, ⟨rfl, ⟨rfl, trivial⟩⟩⟩⟩⟩⟩⟩⟩)
  (by kernel_rfl) Y K hK
noncomputable abbrev al_b_Qa (G : LL) (c2 : Nat) (ro2 : Bool) (ys : List Int) (oo : AObj) : Mem := memL 3 [(0, oM (mV G) c2 ro2), (1, oC (iV ys) false), (2, oo)]
theorem al_b_o2 (t : List Nat) (ht : List.length t ≠ (64 : Nat)) : ¬(↑(List.length t) : Int) = (64 : Int) := by omega
theorem al_b (Y : Ys Prop) (G : LL) (c2 : Nat) (ro2 : Bool) (ys : List Int) (j : Nat) (j4 : j ≤ 4) (i : Nat) (hi : i < j) (d : Int) (t : List Nat) (hn : nth (iV ys) i = some (.int .i64 d)) (hl : lookV (.one .int) false (.str []) (.int .i64 d) (mV G) = some (.str t)) (ht : List.length t ≠ 64) (vo : V) (oo : AObj) (T : Slots) (hT : allS T [(s0, .map 0), (s1, .slice 1 0 j j 1), (s4, .nilslice), (s5, .bool false), (s6, vo), (s7, .int .i64 ((i : Nat) : Int))]) (K : Ex → Slots → Mem → Prop) (hK : ∀ T', allS T' [(s4, .nilslice), (s5, .bool false)] → K (.ret) T' (memL 3 [(0, .map (mV G) c2 ro2), (1, .cells (iV ys) false), (2, oo)])) :
   code pA (callD pA tb0 la0 5) Y c45l0 T (memL 3 [(0, .map (mV G) c2 ro2), (1, .cells (iV ys) false), (2, oo)]) K :=
  code_of_vc (mono_false) (.fix s0 (V.map 0) (.fix s1 (V.slice 1 0 j j 1) (.fix s4 (V.nilslice) (.fix s5 (vb false) (.fix s6 (vo) (.fix s7 (vi ↑i) (.wait 4 (.fix s11 (vb true) (.wait 4 (.res (V.ptr 1 i) (.res (vi d) (.res (V.str t) (.wait 2 (.fix s21 (vb true) .nil))))))))))))))
  (show (Slots.get T s0 = V.map 0 ∧ Slots.get T s1 = V.slice 1 0 j j 1 ∧ Slots.get T s4 = V.nilslice ∧ Slots.get T s5 = vb false ∧ Slots.get T s6 = vo ∧ Slots.get T s7 = vi ↑i ∧ vb (ltI ↑i ↑j) = vb true ∧ iaddrV 1 (V.slice 1 0 j j 1) (vi ↑i) = some (V.ptr 1 i) ∧ nth (iV ys) (i) = some (vi d) ∧ lookV (KT.one SK.int) false (V.str []) (vi d) (mV G) = some (V.str t) ∧ vb (nB (eqI (↑(List.length t)) 64)) = vb true ∧ Ex.ret = Ex.ret ∧ rR (al_b_Qa G c2 ro2 ys oo) ∧ (V.nilslice = V.nilslice ∧ (vb false = vb false ∧ True))) from
  ⟨hT.1, hT.2.1, hT.2.2.1, hT.2.2.2.1, hT.2.2.2.2.1, hT.2.2.2.2.2.1, cb (ltT rfl rfl (al_n_o0 j i j4 hi)), (iaddr_ok1 (i := i) rfl (al_n_o1 j i j4 hi)), hn, hl, cb (congrArg Bool.not (eqF rfl rfl (al_b_o2 t ht))), rfl, rfl, ⟨rfl, ⟨rfl, trivial⟩⟩⟩)
  (by kernel_rfl) Y K hK
theorem al_e_o0 (j : Nat) (j4 : j ≤ (4 : Nat)) : ¬(↑j : Int) < (↑j : Int) := by omega
theorem al_e (Y : Ys Prop) (G : LL) (c2 : Nat) (ro2 : Bool) (ys : List Int) (j : Nat) (j4 : j ≤ 4) (vo : V) (oo : AObj) (T : Slots) (hT : allS T [(s0, .map 0), (s1, .slice 1 0 j j 1), (s4, .nilslice), (s5, .bool false), (s6, vo), (s7, .int .i64 ((j : Nat) : Int))]) (K : Ex → Slots → Mem → Prop) (hK : ∀ T', allS T' [(s0, .map 0), (s1, .slice 1 0 j j 1), (s4, .nilslice), (s5, .bool false), (s6, vo), (s7, .int .i64 ((j : Nat) : Int))] → K (.exit 0) T' (memL 3 [(0, .map (mV G) c2 ro2), (1, .cells (iV ys) false), (2, oo)])) :
   code pA (callD pA tb0 la0 5) Y c45l0 T (memL 3 [(0, .map (mV G) c2 ro2), (1, .cells (iV ys) false), (2, oo)]) K :=
  code_of_vc (mono_false) (.fix s0 (V.map 0) (.fix s1 (V.slice 1 0 j j 1) (.fix s4 (V.nilslice) (.fix s5 (vb false) (.fix s6 (vo) (.fix s7 (vi ↑j) (.wait 4 (.fix s11 (vb false) .nil))))))))
  (show (Slots.get T s0 = V.map 0 ∧ Slots.get T s1 = V.slice 1 0 j j 1 ∧ Slots.get T s4 = V.nilslice ∧ Slots.get T s5 = vb false ∧ Slots.get T s6 = vo ∧ Slots.get T s7 = vi ↑j ∧ vb (ltI ↑j ↑j) = vb false ∧ Ex.exit 0 = Ex.exit 0 ∧ rR (al_b_Qa G c2 ro2 ys oo) ∧ (V.map 0 = V.map 0 ∧ (rR (V.slice 1 0 j j 1) ∧ (V.nilslice = V.nilslice ∧ (vb false = vb false ∧ (vo = vo ∧ (vi ↑j = vi ↑j ∧ True))))))) from
  ⟨hT.1, hT.2.1, hT.2.2.1, hT.2.2.2.1, hT.2.2.2.2.1, hT.2.2.2.2.2.1, cb (ltF rfl rfl (al_e_o0 j j4)), rfl, rfl, ⟨rfl, ⟨rfl, ⟨rfl, ⟨rfl, ⟨rfl, ⟨rfl, trivial⟩⟩⟩⟩⟩⟩⟩)
  (by kernel_rfl) Y K hK
noncomputable abbrev al_Qa (G : LL) (c2 : Nat) (ro2 : Bool) (ys : List Int) (j k : Nat) (Q : List V) : Con := ⟨[.map 0, .slice 1 0 j j 1], [.map (mV G) c2 ro2, .cells (iV ys) false], .tuple [.slice 2 0 k k 1, .bool true], [.map (mV G) c2 ro2, .cells (iV ys) false], [(2, .cells Q false)]⟩
noncomputable abbrev al_Qb (G : LL) (c2 : Nat) (ro2 : Bool) (ys : List Int) : Mem := memL 2 [(0, oM (mV G) c2 ro2), (1, oC (iV ys) false)]
noncomputable abbrev al_Qc (G : LL) (c2 : Nat) (ro2 : Bool) (ys : List Int) (Q : List V) : Mem := memL 3 [(0, oM (mV G) c2 ro2), (1, oC (iV ys) false), (2, oC Q false)]
noncomputable abbrev al_Qd (j : Nat) : List (Sl × V) := [(s0, V.map 0), (s1, V.slice 1 0 j j 1), (s4, V.nilslice), (s5, vb false), (s6, V.nilslice), (s7, vi ↑0)]
noncomputable abbrev al_Qe (j k : Nat) : List (Sl × V) := [(s0, V.map 0), (s1, V.slice 1 0 j j 1), (s4, V.nilslice), (s5, vb false), (s6, V.slice 2 0 k k 1), (s7, vi ↑j)]
noncomputable abbrev al_Qf (G : LL) (c2 : Nat) (ro2 : Bool) (ys : List Int) (j k : Nat) (Q : List V) : Prop := LoopOkD (callD pA tb0 la0 5) 2 c45l0 (Ex.exit 0) (al_Qb G c2 ro2 ys) (al_Qd j) (fun _ => True) (fun _ => (al_Qc G c2 ro2 ys Q)) fun _ => (al_Qe j k)
theorem al (Y : Ys Prop) (G : LL) (c2 : Nat) (ro2 : Bool) (ys : List Int) (j : Nat) (j4 : j ≤ 4) (k : Nat) (Q : List V) (H : al_Qf G c2 ro2 ys j k Q) :
   body1D (callD pA tb0 la0 5) Y c45 (al_Qa G c2 ro2 ys j k Q).args (memO (al_Qa G c2 ro2 ys j k Q).pre) (endC (al_Qa G c2 ro2 ys j k Q)) :=
  walkCD_of_vc (C := (al_Qa G c2 ro2 ys j k Q)) (mono_false) (.wait 4 (.invd (Ex.exit 0) (al_Qb G c2 ro2 ys) (al_Qd j) (fun x => True) (fun x => (al_Qc G c2 ro2 ys Q)) (fun x => (al_Qe j k)) fun xv0 => .nil))
  (show (rR (al_Qb G c2 ro2 ys) ∧ (EqZ [V.map 0, V.slice 1 0 j j 1, V.nilslice, vb false, V.nilslice, vi ↑0]) ∧ (al_Qf G c2 ro2 ys j k Q) ∧ (∀ (xv0 : EnL), True → ∀ (T0 : Slots), allS T0 (al_Qe j k) → (rR (V.tuple [V.slice 2 0 k k 1, vb true]) ∧ (rR (some (oM (mV G) c2 ro2)) ∧ (rR (some (oC (iV ys) false)) ∧ True)) ∧ (rR (some (oC Q false)) ∧ True)))) from
  ⟨rfl, (eqZ _), H, fun xv0 hq0 T0 hj0 => ⟨(by rfl), ⟨(by rfl), ⟨(by rfl), trivial⟩⟩, ⟨(by rfl), trivial⟩⟩⟩)
  (by kernel_rfl) Y
noncomputable abbrev alb_Qa (G : LL) (c2 : Nat) (ro2 : Bool) (ys : List Int) (j : Nat) : Con := ⟨[.map 0, .slice 1 0 j j 1], [.map (mV G) c2 ro2, .cells (iV ys) false], .tuple [.nilslice, .bool false], [.map (mV G) c2 ro2, .cells (iV ys) false], []⟩
noncomputable abbrev alb_Qb (G : LL) (c2 : Nat) (ro2 : Bool) (ys : List Int) (j : Nat) (oo : AObj) : Prop := LoopOkD (callD pA tb0 la0 5) 2 c45l0 Ex.ret (al_Qb G c2 ro2 ys) (al_Qd j) (fun _ => True) (fun _ => (al_b_Qa G c2 ro2 ys oo)) fun _ => [(s4, V.nilslice), (s5, vb false)]
theorem alb (Y : Ys Prop) (G : LL) (c2 : Nat) (ro2 : Bool) (ys : List Int) (j : Nat) (j4 : j ≤ 4) (oo : AObj) (H : alb_Qb G c2 ro2 ys j oo) :
   body1D (callD pA tb0 la0 5) Y c45 (alb_Qa G c2 ro2 ys j).args (memO (alb_Qa G c2 ro2 ys j).pre) (endC (alb_Qa G c2 ro2 ys j)) :=
  walkCD_of_vc (C := (alb_Qa G c2 ro2 ys j)) (mono_false) (.wait 4 (.invd (Ex.ret) (al_Qb G c2 ro2 ys) (al_Qd j) (fun x => True) (fun x => (al_b_Qa G c2 ro2 ys oo)) (fun x => [(s4, V.nilslice), (s5, vb false)]) fun xv0 => .nil))
  (show (rR (al_Qb G c2 ro2 ys) ∧ (EqZ [V.map 0, V.slice 1 0 j j 1, V.nilslice, vb false, V.nilslice, vi ↑0]) ∧ (alb_Qb G c2 ro2 ys j oo) ∧ (∀ (xv0 : EnL), True → ∀ (T0 : Slots), allS T0 ([(s4, V.nilslice), (s5, vb false)]) → (rR (V.tuple [V.nilslice, vb false]) ∧ (rR (some (oM (mV G) c2 ro2)) ∧ (rR (some (oC (iV ys) false)) ∧ True)) ∧ True))) from
  ⟨rfl, (eqZ _), H, fun xv0 hq0 T0 hj0 => ⟨(by rfl), ⟨(by rfl), ⟨(by rfl), trivial⟩⟩, trivial⟩⟩)
  (by kernel_rfl) Y
noncomputable abbrev al0_Qa (G : LL) (c2 : Nat) (ro2 : Bool) : Con := ⟨[.map 0, .nilslice], [.map (mV G) c2 ro2], .tuple [.nilslice, .bool true], [.map (mV G) c2 ro2], []⟩
theorem al0 (Y : Ys Prop) (G : LL) (c2 : Nat) (ro2 : Bool) :
   body1 pA (callD pA tb0 la0 5) Y c45 (al0_Qa G c2 ro2).args (memO (al0_Qa G c2 ro2).pre) (endC (al0_Qa G c2 ro2)) :=
  walkC_of_vc (C := (al0_Qa G c2 ro2)) (mono_false) .nil
  (show (rR (V.tuple [V.nilslice, vb true]) ∧ (rR (some (oM (mV G) c2 ro2)) ∧ True) ∧ True) from
  ⟨(by rfl), ⟨(by rfl), trivial⟩, trivial⟩)
  (by kernel_rfl) Y
noncomputable abbrev aln_0_Qa : Con := ⟨[.nilmap, .nilslice], [], .tuple [.nilslice, .bool true], [], []⟩
theorem aln_0 (Y : Ys Prop)  :
   body1 pA (callD pA tb0 la0 5) Y c45 (aln_0_Qa).args (memO (aln_0_Qa).pre) (endC (aln_0_Qa)) :=
  walkC_of_vc (C := (aln_0_Qa)) (mono_false) .nil
  (show (rR (V.tuple [V.nilslice, vb true]) ∧ True ∧ True) from
  ⟨(by rfl), trivial, trivial⟩)
  (by kernel_rfl) Y
noncomputable abbrev aln_b_Qa (ys : List Int) (j : Nat) : Con := ⟨[.nilmap, .slice 0 0 j j 1], [.cells (iV ys) false], .tuple [.nilslice, .bool false], [.cells (iV ys) false], []⟩
theorem aln_b_o0 (j : Nat) (j1 : (1 : Nat) ≤ j) (j4 : j ≤ (4 : Nat)) : (0 : Int) < (↑j : Int) := by omega
theorem aln_b_o1 (j : Nat) (j1 : (1 : Nat) ≤ j) (j4 : j ≤ (4 : Nat)) : (0 : Nat) < j := by omega
theorem aln_b (Y : Ys Prop) (ys : List Int) (j : Nat) (j1 : 1 ≤ j) (j4 : j ≤ 4) (d : Int) (hd : nth (iV ys) 0 = some (.int .i64 d)) :
   body1 pA (callD pA tb0 la0 5) Y c45 (aln_b_Qa ys j).args (memO (aln_b_Qa ys j).pre) (endC (aln_b_Qa ys j)) :=
  walkC_of_vc (C := (aln_b_Qa ys j)) (mono_false) (.wait 9 (.fix s11 (vb true) (.wait 4 (.res (V.ptr 0 0) (.res (vi d) .nil)))))
  (show (vb (ltI 0 ↑j) = vb true ∧ iaddrV 1 (V.slice 0 0 j j 1) (vi (Int.ofNat 0)) = some (V.ptr 0 0) ∧ nth (iV ys) (0) = some (vi d) ∧ rR (V.tuple [V.nilslice, vb false]) ∧ (rR (some (oC (iV ys) false)) ∧ True) ∧ True) from
  ⟨cb (ltT rfl rfl (aln_b_o0 j j1 j4)), (iaddr_ok1 (i := 0) rfl (aln_b_o1 j j1 j4)), hd, (by rfl), ⟨(by rfl), trivial⟩, trivial⟩)
  (by kernel_rfl) Y
end Go.Proofs.Ytjikaankdnmabaa
