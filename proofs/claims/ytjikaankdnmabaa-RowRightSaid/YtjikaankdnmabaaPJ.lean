/- The law: its loops by what they come to. No condition. -/
import Derived.Test.YtjikaankdnmabaaOW
import Derived.Test.YtjikaankdnmabaaPA
namespace Go.Proofs.Ytjikaankdnmabaa
open Go Go.AM
set_option maxRecDepth 100000
set_option maxHeartbeats 4000000
set_option linter.unusedVariables false
set_option linter.unusedSectionVars false
def inC (q : Int) (n : Nat) : List V := [.bool (bq q 0 n), .bool (bq q 1 n), .bool (bq q 2 n), .bool (bq q 3 n)]
theorem bq_lt {q : Int} {j n : Nat} (h : j ≠ n) : bq q j (n + 1) = bq q j n := by
  unfold bq
  rw [show decide (j < n + 1) = decide (j < n) from by simp only [decide_eq_decide]; omega]
theorem bq_at {q : Int} {n : Nat} : bq q n (n + 1) = !decide (((n : Nat) : Int) = q) := by
  unfold bq; simp
theorem wf2s (a w X : List Nat) : Con.wf ⟨[.slice 0 0 2 2 1], [.cells [.str a, .str w] false], .tuple [.str X, .int .i64 0], [.cells [.str a, .str w] false], []⟩ = true := rfl
theorem inC_put {q : Int} {v : Bool} : ∀ {i : Nat}, i < 4 → v = !decide (((i : Nat) : Int) = q) → putAt [.bool v] i (inC q i) = some (inC q (i + 1))
  | 0, _, h => by
    show some [V.bool v, V.bool (bq q 1 0), V.bool (bq q 2 0), V.bool (bq q 3 0)] = some [V.bool (bq q 0 (0 + 1)), V.bool (bq q 1 (0 + 1)), V.bool (bq q 2 (0 + 1)), V.bool (bq q 3 (0 + 1))]
    rw [bq_lt (show 1 ≠ 0 by decide), bq_lt (show 2 ≠ 0 by decide), bq_lt (show 3 ≠ 0 by decide), bq_at (q := q) (n := 0), h]
  | 1, _, h => by
    show some [V.bool (bq q 0 1), V.bool v, V.bool (bq q 2 1), V.bool (bq q 3 1)] = some [V.bool (bq q 0 (1 + 1)), V.bool (bq q 1 (1 + 1)), V.bool (bq q 2 (1 + 1)), V.bool (bq q 3 (1 + 1))]
    rw [bq_lt (show 0 ≠ 1 by decide), bq_lt (show 2 ≠ 1 by decide), bq_lt (show 3 ≠ 1 by decide), bq_at (q := q) (n := 1), h]
  | 2, _, h => by
    show some [V.bool (bq q 0 2), V.bool (bq q 1 2), V.bool v, V.bool (bq q 3 2)] = some [V.bool (bq q 0 (2 + 1)), V.bool (bq q 1 (2 + 1)), V.bool (bq q 2 (2 + 1)), V.bool (bq q 3 (2 + 1))]
    rw [bq_lt (show 0 ≠ 2 by decide), bq_lt (show 1 ≠ 2 by decide), bq_lt (show 3 ≠ 2 by decide), bq_at (q := q) (n := 2), h]
  | 3, _, h => by
    show some [V.bool (bq q 0 3), V.bool (bq q 1 3), V.bool (bq q 2 3), V.bool v] = some [V.bool (bq q 0 (3 + 1)), V.bool (bq q 1 (3 + 1)), V.bool (bq q 2 (3 + 1)), V.bool (bq q 3 (3 + 1))]
    rw [bq_lt (show 0 ≠ 3 by decide), bq_lt (show 1 ≠ 3 by decide), bq_lt (show 2 ≠ 3 by decide), bq_at (q := q) (n := 3), h]
  | i + 4, h, _ => by omega
theorem h1loop (l m r s k q : Int) (o1 o2 o3 : AObj) (m0 : 0 ≤ m) (m4 : m ≤ 4) : LoopOk2 (callD pA tb0 la6 5) c6l1 (.exit 2) (memL 5 [(0, .cells [.int .i64 l, .int .i64 m, .int .i64 r] false), (1, o1), (2, o2), (3, o3), (4, .cells [.bool false, .bool false, .bool false, .bool false] false)]) [(s1, .int .i64 s), (s4, .int .u8 k), (s6, .ptr 0 0), (s9, .ptr 2 0), (s12, .bool false), (s14, .map 3), (s16, .int .i64 q), (s17, .ptr 4 0), (s18, .int .i64 ((0 : Nat) : Int))] (memL 5 [(0, .cells [.int .i64 l, .int .i64 m, .int .i64 r] false), (1, o1), (2, o2), (3, o3), (4, .cells (inC q m.toNat) false)]) [(s1, .int .i64 s), (s4, .int .u8 k), (s6, .ptr 0 0), (s9, .ptr 2 0), (s12, .bool false), (s14, .map 3), (s17, .ptr 4 0)] := by
  refine loop2 m.toNat (Nat.lt_of_lt_of_le (rounds_big (by omega)) (Nat.sub_le _ _)) (fun i => memL 5 [(0, .cells [.int .i64 l, .int .i64 m, .int .i64 r] false), (1, o1), (2, o2), (3, o3), (4, .cells (inC q i) false)]) (fun i => [(s1, .int .i64 s), (s4, .int .u8 k), (s6, .ptr 0 0), (s9, .ptr 2 0), (s12, .bool false), (s14, .map 3), (s16, .int .i64 q), (s17, .ptr 4 0), (s18, .int .i64 ((i : Nat) : Int))]) (fun Y i T hi hT K hK => ?_) (fun Y T hT K hK => li_e Y l m r s k q o1 o2 o3 m.toNat (by omega) (inC q m.toNat) T hT K hK)
  by_cases e : ((i : Nat) : Int) = q
  · exact li_f Y l m r s k q o1 o2 o3 i (by omega) m4 (inC q i) (inC q (i + 1)) e.symm (inC_put (by omega) (by simp [e])) T hT K hK
  · exact li_t Y l m r s k q o1 o2 o3 i (by omega) m4 (inC q i) (inC q (i + 1)) e (inC_put (by omega) (by simp [e])) T hT K hK
theorem h2loop_o (s : Int) (j : Nat) (M : List (Int × List Nat × Nat)) (n : Nat) (o0 o1 o2 o4 o5 o6 o7 o8 o9 : AObj) (hs : Stamped (mV M) n) (hkn : (keysG M).Nodup) (hkey : ∀ y ∈ M, 0 ≤ y.1) : LoopOk3 (callD pA tb0 la6 5) c6l2 (.exit 4) (memL 12 [(0, o0), (1, o1), (2, o2), (3, .map (mV M) n false), (4, o4), (5, o5), (6, o6), (7, o7), (8, o8), (9, o9), (10, .map [] 0 false), (11, .iter (some 3) n [] n)]) [(s6, .ptr 0 0), (s12, .bool false), (s1, .int .i64 s), (s17, .ptr 4 0), (s19, .slice 5 0 j j 1), (s21, .map 7), (s24, .map 9), (s26, .map 10), (s132, .ptr 11 0)] (fun v => List.Perm v (mV M)) (fun v => memL 12 [(0, o0), (1, o1), (2, o2), (3, .map (mV M) n false), (4, o4), (5, o5), (6, o6), (7, o7), (8, o8), (9, o9), (10, .map (mV (cpG v)) (List.length (cpG v)) false), (11, .iter (some 3) n (stamps v) n)]) (fun v => [(s6, .ptr 0 0), (s12, .bool false), (s1, .int .i64 s), (s17, .ptr 4 0), (s19, .slice 5 0 j j 1), (s21, .map 7), (s24, .map 9), (s26, .map 10), (s132, .ptr 11 0)]) := by
  rw [c6l2_eq]
  refine rangeL hs (fun vis => memL 12 [(0, o0), (1, o1), (2, o2), (3, .map (mV M) n false), (4, o4), (5, o5), (6, o6), (7, o7), (8, o8), (9, o9), (10, .map (mV (cpG vis)) (List.length (cpG vis)) false), (11, itO 3 n vis)]) (fun vis y => memL 12 [(0, o0), (1, o1), (2, o2), (3, .map (mV M) n false), (4, o4), (5, o5), (6, o6), (7, o7), (8, o8), (9, o9), (10, .map (mV (cpG vis)) (List.length (cpG vis)) false), (11, itO1 3 n vis y.2.2)]) (fun _ => [(s6, .ptr 0 0), (s12, .bool false), (s1, .int .i64 s), (s17, .ptr 4 0), (s19, .slice 5 0 j j 1), (s21, .map 7), (s24, .map 9), (s26, .map 10), (s132, .ptr 11 0)]) (fun _ => rfl) (fun _ => rfl) (fun _ _ => rfl) (fun _ _ hT => hT.2.2.2.2.2.2.2.2.1) (fun _ => ⟨rfl, rfl⟩) (fun Y vis y T hvis hy hst hT K hK => ?_)
  obtain ⟨⟨d, g, t⟩, hz, rfl⟩ := mV_mem hy
  have k0 := hkey _ hz
  simp only at k0 hst hK hy
  obtain ⟨d, rfl⟩ := Int.eq_ofNat_of_zero_le k0
  have happ := cp_app vis (V.int .i64 ((d : Nat) : Int), V.str g, t)
  have hf : findK (.one .int) (.int .i64 ((d : Nat) : Int)) (mV (cpG vis)) = some none := find_none fun y hy2 e => by
    obtain ⟨e1, he1, he2⟩ := outG_key true true true true vis 0 y hy2
    obtain ⟨z, hz1, rfl⟩ := mV_mem (hvis.sub e1 he1)
    have hzz := key_inj hkn hz1 hz (he2.trans e)
    subst hzz
    exact hst (List.mem_map.2 ⟨_, he1, rfl⟩)
  refine l2_o Y s j M n o0 o1 o2 o4 o5 o6 o7 o8 o9 (cpG vis) (List.length (cpG vis)) t d (stamps vis) g (entry_ok hs hy _ _) hf (mV (cpG vis ++ [(((d : Nat) : Int), g, (List.length (cpG vis)))])) (by rw [mV_app]; rfl) T hT K fun T' hT' => ?_
  have hh := hK T' hT'
  rw [happ, show itO 3 n (vis ++ [(V.int .i64 ((d : Nat) : Int), V.str g, t)]) = .iter (some 3) n (stamps vis ++ [t]) n by unfold itO; rw [stamps_app]] at hh
  rw [show (List.length (cpG vis ++ [(keyI (V.int .i64 ((d : Nat) : Int), V.str g, t), valI (V.int .i64 ((d : Nat) : Int), V.str g, t), (List.length (cpG vis)))])) = List.length (cpG vis) + 1 by simp] at hh
  exact hh
theorem h3loop_o (s : Int) (j : Nat) (b0 b1 b2 b3 : Bool) (X : List (Int × List Nat × Nat)) (c : Nat) (o0 o1 o2 o3 o5 o6 o7 o8 : AObj) (oi : AObj) (N : List (Int × List Nat × Nat)) (e : Nat) (hs : Stamped (mV X) c) (hkey : ∀ y ∈ X, 0 ≤ y.1 ∧ y.1 < 4 ∧ inB4 b0 b1 b2 b3 y.1 = true ∧ y.1 ∈ keysG N) (hN : (keysG N).Nodup) : LoopOk3 (callD pA tb0 la6 5) c6l3 (.exit 6) (memL 13 [(0, o0), (1, o1), (2, o2), (3, o3), (4, .cells (inP b0 b1 b2 b3) false), (5, o5), (6, o6), (7, o7), (8, o8), (9, .map (mV X) c false), (10, .map (mV N) e false), (11, oi), (12, .iter (some 9) c [] c)]) [(s6, .ptr 0 0), (s12, .bool false), (s1, .int .i64 s), (s17, .ptr 4 0), (s19, .slice 5 0 j j 1), (s21, .map 7), (s26, .map 10), (s142, .ptr 12 0)] (fun v => List.Perm v (mV X)) (fun v => memL 13 [(0, o0), (1, o1), (2, o2), (3, o3), (4, .cells (inP b0 b1 b2 b3) false), (5, o5), (6, o6), (7, o7), (8, o8), (9, .map (mV X) c false), (10, .map (mV (puts N v)) e false), (11, oi), (12, .iter (some 9) c (stamps v) c)]) (fun v => [(s6, .ptr 0 0), (s12, .bool false), (s1, .int .i64 s), (s17, .ptr 4 0), (s19, .slice 5 0 j j 1), (s21, .map 7), (s26, .map 10), (s142, .ptr 12 0)]) := by
  rw [c6l3_eq]
  refine rangeL hs (fun vis => memL 13 [(0, o0), (1, o1), (2, o2), (3, o3), (4, .cells (inP b0 b1 b2 b3) false), (5, o5), (6, o6), (7, o7), (8, o8), (9, .map (mV X) c false), (10, .map (mV (puts N vis)) e false), (11, oi), (12, itO 9 c vis)]) (fun vis y => memL 13 [(0, o0), (1, o1), (2, o2), (3, o3), (4, .cells (inP b0 b1 b2 b3) false), (5, o5), (6, o6), (7, o7), (8, o8), (9, .map (mV X) c false), (10, .map (mV (puts N vis)) e false), (11, oi), (12, itO1 9 c vis y.2.2)]) (fun _ => [(s6, .ptr 0 0), (s12, .bool false), (s1, .int .i64 s), (s17, .ptr 4 0), (s19, .slice 5 0 j j 1), (s21, .map 7), (s26, .map 10), (s142, .ptr 12 0)]) (fun _ => rfl) (fun _ => rfl) (fun _ _ => rfl) (fun _ _ hT => hT.2.2.2.2.2.2.2.1) (fun _ => ⟨rfl, rfl⟩) (fun Y vis y T hvis hy hst hT K hK => ?_)
  obtain ⟨⟨d, g, t⟩, hz, rfl⟩ := mV_mem hy
  obtain ⟨k0, k4, kin, kN⟩ := hkey _ hz
  simp only at k0 k4 kin kN hst hK hy
  obtain ⟨d, rfl⟩ := Int.eq_ofNat_of_zero_le k0
  have d4 : d < 4 := by omega
  have hv := inP_nth b0 b1 b2 b3 d d4
  rw [kin] at hv
  refine l3_o Y s j b0 b1 b2 b3 X c o0 o1 o2 o3 o5 o6 o7 o8 oi (puts N vis) (putG (puts N vis) ((d : Nat) : Int) g) e t d d4 (stamps vis) g (entry_ok hs hy _ _) hv (mset_put (by rw [puts_keys]; exact kN) (by rw [puts_keys]; exact hN)) T hT K fun T' hT' => ?_
  have hh := hK T' hT'
  rw [puts_app, show itO 9 c (vis ++ [(V.int .i64 ((d : Nat) : Int), V.str g, t)]) = .iter (some 9) c (stamps vis ++ [t]) c by unfold itO; rw [stamps_app]] at hh
  exact hh
theorem h4loop_o (s p : Int) (j : Nat) (j4 : j ≤ 4) (ys : List Int) (hj : ys.length = j) (Z : List (Int × List Nat × Nat)) (o0 o1 o2 o3 o4 o6 o8 o9 o10 o11 o12 : AObj) (e0 : o0.belD 13 = true) (e1 : o1.belD 13 = true) (e2 : o2.belD 13 = true) (e3 : o3.belD 13 = true) (e4 : o4.belD 13 = true) (e6 : o6.belD 13 = true) (e8 : o8.belD 13 = true) (e9 : o9.belD 13 = true) (e10 : o10.belD 13 = true) (e11 : o11.belD 13 = true) (e12 : o12.belD 13 = true) (F : Int → List Nat) (hF : ∀ y ∈ ys, lookG Z y = F y) (hsec : ∀ y ∈ ys, Sec (F y)) : LoopOkD (callD pA tb0 la6 5) 0 c6l4 (.exit 8) (memL 13 [(0, o0), (1, o1), (2, o2), (3, o3), (4, o4), (5, .cells (iV ys) false), (6, o6), (7, .map (mV Z) j false), (8, o8), (9, o9), (10, o10), (11, o11), (12, o12)]) [(s6, .ptr 0 0), (s12, .bool false), (s1, .int .i64 s), (s17, .ptr 4 0), (s19, .slice 5 0 j j 1), (s21, .map 7), (s26, .map 10), (s31, .int .i64 p), (s33, .str zr), (s34, .int .i64 ((0 : Nat) : Int))] (fun _ => True) (fun _ => memL 13 [(0, o0), (1, o1), (2, o2), (3, o3), (4, o4), (5, .cells (iV ys) false), (6, o6), (7, .map (mV Z) j false), (8, o8), (9, o9), (10, o10), (11, o11), (12, o12)]) (fun _ => [(s6, .ptr 0 0), (s12, .bool false), (s1, .int .i64 s), (s17, .ptr 4 0), (s19, .slice 5 0 j j 1), (s21, .map 7), (s26, .map 10), (s31, .int .i64 p), (s33, .str (smF F ys)), (s34, .int .i64 ((j : Nat) : Int))]) := by
  refine loopD (B := 0) (N := 13) (Nat.zero_le _) j (Nat.lt_of_lt_of_le (rounds_big (by omega)) (Nat.sub_le _ _)) _ (fun _ => memL 13 [(0, o0), (1, o1), (2, o2), (3, o3), (4, o4), (5, .cells (iV ys) false), (6, o6), (7, .map (mV Z) j false), (8, o8), (9, o9), (10, o10), (11, o11), (12, o12)]) (fun i => memL 14 [(0, o0), (1, o1), (2, o2), (3, o3), (4, o4), (5, .cells (iV ys) false), (6, o6), (7, .map (mV Z) j false), (8, o8), (9, o9), (10, o10), (11, o11), (12, o12), (13, .cells [.str (smF F (ys.take i)), .str (F (ys.getD i 0))] false)]) (fun i => [(s6, .ptr 0 0), (s12, .bool false), (s1, .int .i64 s), (s17, .ptr 4 0), (s19, .slice 5 0 j j 1), (s21, .map 7), (s26, .map 10), (s31, .int .i64 p), (s33, .str (smF F (ys.take i))), (s34, .int .i64 ((i : Nat) : Int))]) _ _ ?_ (fun i _ => ?_) (fun _ => rfl) ?_ ?_
  · exact dropM_of (N := 13) (Nat.le_of_ble_eq_true rfl) ⟨⟨by kernel_rfl, e0⟩, ⟨by kernel_rfl, e1⟩, ⟨by kernel_rfl, e2⟩, ⟨by kernel_rfl, e3⟩, ⟨by kernel_rfl, e4⟩, ⟨by kernel_rfl, bels_iV _ _⟩, ⟨by kernel_rfl, e6⟩, ⟨by kernel_rfl, belD_mV _ _ _ _⟩, ⟨by kernel_rfl, e8⟩, ⟨by kernel_rfl, e9⟩, ⟨by kernel_rfl, e10⟩, ⟨by kernel_rfl, e11⟩, ⟨by kernel_rfl, e12⟩, trivial⟩
  · exact dropM_of (N := 13) (Nat.le_of_ble_eq_true rfl) ⟨⟨by kernel_rfl, e0⟩, ⟨by kernel_rfl, e1⟩, ⟨by kernel_rfl, e2⟩, ⟨by kernel_rfl, e3⟩, ⟨by kernel_rfl, e4⟩, ⟨by kernel_rfl, bels_iV _ _⟩, ⟨by kernel_rfl, e6⟩, ⟨by kernel_rfl, belD_mV _ _ _ _⟩, ⟨by kernel_rfl, e8⟩, ⟨by kernel_rfl, e9⟩, ⟨by kernel_rfl, e10⟩, ⟨by kernel_rfl, e11⟩, ⟨by kernel_rfl, e12⟩, trivial⟩
  · intro Y i T hi hT K hK
    obtain ⟨y, hy⟩ : ∃ y, ys[i]? = some y := ⟨_, List.getElem?_eq_getElem (by omega)⟩
    have hym : y ∈ ys := List.mem_iff_getElem?.2 ⟨_, hy⟩
    have hl := look_G Z y
    rw [hF y hym] at hl
    have ht : ys.take (i + 1) = ys.take i ++ [y] := by rw [List.take_add_one, hy]; rfl
    have e28 : sumG [(smF F (ys.take i)), F y] = smF F (ys.take (i + 1)) := by rw [ht, smF_app]
    have h28 : S28 ⟨[.slice 0 0 2 2 1], [.cells [.str (smF F (ys.take i)), .str (F y)] false], .tuple [.str (sumG [(smF F (ys.take i)), F y]), .int .i64 0], [.cells [.str (smF F (ys.take i)), .str (F y)] false], []⟩ := S28.mk [(smF F (ys.take i)), F y] (fun g h => by
      simp only [List.mem_cons, List.not_mem_nil, or_false] at h
      rcases h with rfl | rfl
      · exact (smF_sec F _).1
      · exact (hsec y hym).1) (by simp) (by simp)
    rw [e28] at h28
    have h := l4_o Y s p j j4 ys Z o0 o1 o2 o3 o4 o6 o8 o9 o10 o11 o12 i hi y (smF F (ys.take i)) (F y) (smF F (ys.take (i + 1))) (nth_iV hy) hl h28 (wf2s _ _ _) T hT K
    have hd : ys.getD i 0 = y := by rw [List.getD_eq_getElem?_getD, hy]; rfl
    simp only [hd] at hK
    exact h hK
  · intro Y T hT K hK
    have e : ys.take j = ys := List.take_of_length_le (by omega)
    rw [e] at hT
    exact l4_o_e Y s p j j4 ys Z o0 o1 o2 o3 o4 o6 o8 o9 o10 o11 o12 (smF F ys) T hT K hK
theorem h2loop_k (s : Int) (j : Nat) (M : List (Int × List Nat × Nat)) (n : Nat) (o0 o1 o2 o4 o5 o6 o7 o8 o9 o10 : AObj) (hs : Stamped (mV M) n) (hkn : (keysG M).Nodup) (hkey : ∀ y ∈ M, 0 ≤ y.1) : LoopOk3 (callD pA tb0 la6 5) c6l2 (.exit 4) (memL 13 [(0, o0), (1, o1), (2, o2), (3, .map (mV M) n false), (4, o4), (5, o5), (6, o6), (7, o7), (8, o8), (9, o9), (10, o10), (11, .map [] 0 false), (12, .iter (some 3) n [] n)]) [(s6, .ptr 0 0), (s12, .bool false), (s1, .int .i64 s), (s17, .ptr 4 0), (s19, .slice 5 0 j j 1), (s21, .map 7), (s24, .map 10), (s26, .map 11), (s132, .ptr 12 0)] (fun v => List.Perm v (mV M)) (fun v => memL 13 [(0, o0), (1, o1), (2, o2), (3, .map (mV M) n false), (4, o4), (5, o5), (6, o6), (7, o7), (8, o8), (9, o9), (10, o10), (11, .map (mV (cpG v)) (List.length (cpG v)) false), (12, .iter (some 3) n (stamps v) n)]) (fun v => [(s6, .ptr 0 0), (s12, .bool false), (s1, .int .i64 s), (s17, .ptr 4 0), (s19, .slice 5 0 j j 1), (s21, .map 7), (s24, .map 10), (s26, .map 11), (s132, .ptr 12 0)]) := by
  rw [c6l2_eq]
  refine rangeL hs (fun vis => memL 13 [(0, o0), (1, o1), (2, o2), (3, .map (mV M) n false), (4, o4), (5, o5), (6, o6), (7, o7), (8, o8), (9, o9), (10, o10), (11, .map (mV (cpG vis)) (List.length (cpG vis)) false), (12, itO 3 n vis)]) (fun vis y => memL 13 [(0, o0), (1, o1), (2, o2), (3, .map (mV M) n false), (4, o4), (5, o5), (6, o6), (7, o7), (8, o8), (9, o9), (10, o10), (11, .map (mV (cpG vis)) (List.length (cpG vis)) false), (12, itO1 3 n vis y.2.2)]) (fun _ => [(s6, .ptr 0 0), (s12, .bool false), (s1, .int .i64 s), (s17, .ptr 4 0), (s19, .slice 5 0 j j 1), (s21, .map 7), (s24, .map 10), (s26, .map 11), (s132, .ptr 12 0)]) (fun _ => rfl) (fun _ => rfl) (fun _ _ => rfl) (fun _ _ hT => hT.2.2.2.2.2.2.2.2.1) (fun _ => ⟨rfl, rfl⟩) (fun Y vis y T hvis hy hst hT K hK => ?_)
  obtain ⟨⟨d, g, t⟩, hz, rfl⟩ := mV_mem hy
  have k0 := hkey _ hz
  simp only at k0 hst hK hy
  obtain ⟨d, rfl⟩ := Int.eq_ofNat_of_zero_le k0
  have happ := cp_app vis (V.int .i64 ((d : Nat) : Int), V.str g, t)
  have hf : findK (.one .int) (.int .i64 ((d : Nat) : Int)) (mV (cpG vis)) = some none := find_none fun y hy2 e => by
    obtain ⟨e1, he1, he2⟩ := outG_key true true true true vis 0 y hy2
    obtain ⟨z, hz1, rfl⟩ := mV_mem (hvis.sub e1 he1)
    have hzz := key_inj hkn hz1 hz (he2.trans e)
    subst hzz
    exact hst (List.mem_map.2 ⟨_, he1, rfl⟩)
  refine l2_k Y s j M n o0 o1 o2 o4 o5 o6 o7 o8 o9 o10 (cpG vis) (List.length (cpG vis)) t d (stamps vis) g (entry_ok hs hy _ _) hf (mV (cpG vis ++ [(((d : Nat) : Int), g, (List.length (cpG vis)))])) (by rw [mV_app]; rfl) T hT K fun T' hT' => ?_
  have hh := hK T' hT'
  rw [happ, show itO 3 n (vis ++ [(V.int .i64 ((d : Nat) : Int), V.str g, t)]) = .iter (some 3) n (stamps vis ++ [t]) n by unfold itO; rw [stamps_app]] at hh
  rw [show (List.length (cpG vis ++ [(keyI (V.int .i64 ((d : Nat) : Int), V.str g, t), valI (V.int .i64 ((d : Nat) : Int), V.str g, t), (List.length (cpG vis)))])) = List.length (cpG vis) + 1 by simp] at hh
  exact hh
theorem h3loop_k (s : Int) (j : Nat) (b0 b1 b2 b3 : Bool) (X : List (Int × List Nat × Nat)) (c : Nat) (o0 o1 o2 o3 o5 o6 o7 o8 o9 : AObj) (oi : AObj) (N : List (Int × List Nat × Nat)) (e : Nat) (hs : Stamped (mV X) c) (hkey : ∀ y ∈ X, 0 ≤ y.1 ∧ y.1 < 4 ∧ inB4 b0 b1 b2 b3 y.1 = true ∧ y.1 ∈ keysG N) (hN : (keysG N).Nodup) : LoopOk3 (callD pA tb0 la6 5) c6l3 (.exit 6) (memL 14 [(0, o0), (1, o1), (2, o2), (3, o3), (4, .cells (inP b0 b1 b2 b3) false), (5, o5), (6, o6), (7, o7), (8, o8), (9, o9), (10, .map (mV X) c false), (11, .map (mV N) e false), (12, oi), (13, .iter (some 10) c [] c)]) [(s6, .ptr 0 0), (s12, .bool false), (s1, .int .i64 s), (s17, .ptr 4 0), (s19, .slice 5 0 j j 1), (s21, .map 7), (s26, .map 11), (s142, .ptr 13 0)] (fun v => List.Perm v (mV X)) (fun v => memL 14 [(0, o0), (1, o1), (2, o2), (3, o3), (4, .cells (inP b0 b1 b2 b3) false), (5, o5), (6, o6), (7, o7), (8, o8), (9, o9), (10, .map (mV X) c false), (11, .map (mV (puts N v)) e false), (12, oi), (13, .iter (some 10) c (stamps v) c)]) (fun v => [(s6, .ptr 0 0), (s12, .bool false), (s1, .int .i64 s), (s17, .ptr 4 0), (s19, .slice 5 0 j j 1), (s21, .map 7), (s26, .map 11), (s142, .ptr 13 0)]) := by
  rw [c6l3_eq]
  refine rangeL hs (fun vis => memL 14 [(0, o0), (1, o1), (2, o2), (3, o3), (4, .cells (inP b0 b1 b2 b3) false), (5, o5), (6, o6), (7, o7), (8, o8), (9, o9), (10, .map (mV X) c false), (11, .map (mV (puts N vis)) e false), (12, oi), (13, itO 10 c vis)]) (fun vis y => memL 14 [(0, o0), (1, o1), (2, o2), (3, o3), (4, .cells (inP b0 b1 b2 b3) false), (5, o5), (6, o6), (7, o7), (8, o8), (9, o9), (10, .map (mV X) c false), (11, .map (mV (puts N vis)) e false), (12, oi), (13, itO1 10 c vis y.2.2)]) (fun _ => [(s6, .ptr 0 0), (s12, .bool false), (s1, .int .i64 s), (s17, .ptr 4 0), (s19, .slice 5 0 j j 1), (s21, .map 7), (s26, .map 11), (s142, .ptr 13 0)]) (fun _ => rfl) (fun _ => rfl) (fun _ _ => rfl) (fun _ _ hT => hT.2.2.2.2.2.2.2.1) (fun _ => ⟨rfl, rfl⟩) (fun Y vis y T hvis hy hst hT K hK => ?_)
  obtain ⟨⟨d, g, t⟩, hz, rfl⟩ := mV_mem hy
  obtain ⟨k0, k4, kin, kN⟩ := hkey _ hz
  simp only at k0 k4 kin kN hst hK hy
  obtain ⟨d, rfl⟩ := Int.eq_ofNat_of_zero_le k0
  have d4 : d < 4 := by omega
  have hv := inP_nth b0 b1 b2 b3 d d4
  rw [kin] at hv
  refine l3_k Y s j b0 b1 b2 b3 X c o0 o1 o2 o3 o5 o6 o7 o8 o9 oi (puts N vis) (putG (puts N vis) ((d : Nat) : Int) g) e t d d4 (stamps vis) g (entry_ok hs hy _ _) hv (mset_put (by rw [puts_keys]; exact kN) (by rw [puts_keys]; exact hN)) T hT K fun T' hT' => ?_
  have hh := hK T' hT'
  rw [puts_app, show itO 10 c (vis ++ [(V.int .i64 ((d : Nat) : Int), V.str g, t)]) = .iter (some 10) c (stamps vis ++ [t]) c by unfold itO; rw [stamps_app]] at hh
  exact hh
theorem h4loop_k (s p : Int) (j : Nat) (j4 : j ≤ 4) (ys : List Int) (hj : ys.length = j) (Z : List (Int × List Nat × Nat)) (o0 o1 o2 o3 o4 o6 o8 o9 o10 o11 o12 o13 : AObj) (e0 : o0.belD 14 = true) (e1 : o1.belD 14 = true) (e2 : o2.belD 14 = true) (e3 : o3.belD 14 = true) (e4 : o4.belD 14 = true) (e6 : o6.belD 14 = true) (e8 : o8.belD 14 = true) (e9 : o9.belD 14 = true) (e10 : o10.belD 14 = true) (e11 : o11.belD 14 = true) (e12 : o12.belD 14 = true) (e13 : o13.belD 14 = true) (F : Int → List Nat) (hF : ∀ y ∈ ys, lookG Z y = F y) (hsec : ∀ y ∈ ys, Sec (F y)) : LoopOkD (callD pA tb0 la6 5) 0 c6l4 (.exit 8) (memL 14 [(0, o0), (1, o1), (2, o2), (3, o3), (4, o4), (5, .cells (iV ys) false), (6, o6), (7, .map (mV Z) j false), (8, o8), (9, o9), (10, o10), (11, o11), (12, o12), (13, o13)]) [(s6, .ptr 0 0), (s12, .bool false), (s1, .int .i64 s), (s17, .ptr 4 0), (s19, .slice 5 0 j j 1), (s21, .map 7), (s26, .map 11), (s31, .int .i64 p), (s33, .str zr), (s34, .int .i64 ((0 : Nat) : Int))] (fun _ => True) (fun _ => memL 14 [(0, o0), (1, o1), (2, o2), (3, o3), (4, o4), (5, .cells (iV ys) false), (6, o6), (7, .map (mV Z) j false), (8, o8), (9, o9), (10, o10), (11, o11), (12, o12), (13, o13)]) (fun _ => [(s6, .ptr 0 0), (s12, .bool false), (s1, .int .i64 s), (s17, .ptr 4 0), (s19, .slice 5 0 j j 1), (s21, .map 7), (s26, .map 11), (s31, .int .i64 p), (s33, .str (smF F ys)), (s34, .int .i64 ((j : Nat) : Int))]) := by
  refine loopD (B := 0) (N := 14) (Nat.zero_le _) j (Nat.lt_of_lt_of_le (rounds_big (by omega)) (Nat.sub_le _ _)) _ (fun _ => memL 14 [(0, o0), (1, o1), (2, o2), (3, o3), (4, o4), (5, .cells (iV ys) false), (6, o6), (7, .map (mV Z) j false), (8, o8), (9, o9), (10, o10), (11, o11), (12, o12), (13, o13)]) (fun i => memL 15 [(0, o0), (1, o1), (2, o2), (3, o3), (4, o4), (5, .cells (iV ys) false), (6, o6), (7, .map (mV Z) j false), (8, o8), (9, o9), (10, o10), (11, o11), (12, o12), (13, o13), (14, .cells [.str (smF F (ys.take i)), .str (F (ys.getD i 0))] false)]) (fun i => [(s6, .ptr 0 0), (s12, .bool false), (s1, .int .i64 s), (s17, .ptr 4 0), (s19, .slice 5 0 j j 1), (s21, .map 7), (s26, .map 11), (s31, .int .i64 p), (s33, .str (smF F (ys.take i))), (s34, .int .i64 ((i : Nat) : Int))]) _ _ ?_ (fun i _ => ?_) (fun _ => rfl) ?_ ?_
  · exact dropM_of (N := 14) (Nat.le_of_ble_eq_true rfl) ⟨⟨by kernel_rfl, e0⟩, ⟨by kernel_rfl, e1⟩, ⟨by kernel_rfl, e2⟩, ⟨by kernel_rfl, e3⟩, ⟨by kernel_rfl, e4⟩, ⟨by kernel_rfl, bels_iV _ _⟩, ⟨by kernel_rfl, e6⟩, ⟨by kernel_rfl, belD_mV _ _ _ _⟩, ⟨by kernel_rfl, e8⟩, ⟨by kernel_rfl, e9⟩, ⟨by kernel_rfl, e10⟩, ⟨by kernel_rfl, e11⟩, ⟨by kernel_rfl, e12⟩, ⟨by kernel_rfl, e13⟩, trivial⟩
  · exact dropM_of (N := 14) (Nat.le_of_ble_eq_true rfl) ⟨⟨by kernel_rfl, e0⟩, ⟨by kernel_rfl, e1⟩, ⟨by kernel_rfl, e2⟩, ⟨by kernel_rfl, e3⟩, ⟨by kernel_rfl, e4⟩, ⟨by kernel_rfl, bels_iV _ _⟩, ⟨by kernel_rfl, e6⟩, ⟨by kernel_rfl, belD_mV _ _ _ _⟩, ⟨by kernel_rfl, e8⟩, ⟨by kernel_rfl, e9⟩, ⟨by kernel_rfl, e10⟩, ⟨by kernel_rfl, e11⟩, ⟨by kernel_rfl, e12⟩, ⟨by kernel_rfl, e13⟩, trivial⟩
  · intro Y i T hi hT K hK
    obtain ⟨y, hy⟩ : ∃ y, ys[i]? = some y := ⟨_, List.getElem?_eq_getElem (by omega)⟩
    have hym : y ∈ ys := List.mem_iff_getElem?.2 ⟨_, hy⟩
    have hl := look_G Z y
    rw [hF y hym] at hl
    have ht : ys.take (i + 1) = ys.take i ++ [y] := by rw [List.take_add_one, hy]; rfl
    have e28 : sumG [(smF F (ys.take i)), F y] = smF F (ys.take (i + 1)) := by rw [ht, smF_app]
    have h28 : S28 ⟨[.slice 0 0 2 2 1], [.cells [.str (smF F (ys.take i)), .str (F y)] false], .tuple [.str (sumG [(smF F (ys.take i)), F y]), .int .i64 0], [.cells [.str (smF F (ys.take i)), .str (F y)] false], []⟩ := S28.mk [(smF F (ys.take i)), F y] (fun g h => by
      simp only [List.mem_cons, List.not_mem_nil, or_false] at h
      rcases h with rfl | rfl
      · exact (smF_sec F _).1
      · exact (hsec y hym).1) (by simp) (by simp)
    rw [e28] at h28
    have h := l4_k Y s p j j4 ys Z o0 o1 o2 o3 o4 o6 o8 o9 o10 o11 o12 o13 i hi y (smF F (ys.take i)) (F y) (smF F (ys.take (i + 1))) (nth_iV hy) hl h28 (wf2s _ _ _) T hT K
    have hd : ys.getD i 0 = y := by rw [List.getD_eq_getElem?_getD, hy]; rfl
    simp only [hd] at hK
    exact h hK
  · intro Y T hT K hK
    have e : ys.take j = ys := List.take_of_length_le (by omega)
    rw [e] at hT
    exact l4_k_e Y s p j j4 ys Z o0 o1 o2 o3 o4 o6 o8 o9 o10 o11 o12 o13 (smF F ys) T hT K hK
end Go.Proofs.Ytjikaankdnmabaa
