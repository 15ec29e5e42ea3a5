/- Makes: the loop. No condition. -/
import Derived.Test.YtjikaankdnmabaaKJ
namespace Go.Proofs.Ytjikaankdnmabaa
open Go Go.AM
set_option maxRecDepth 100000
set_option maxHeartbeats 4000000
set_option linter.unusedVariables false
set_option linter.unusedSectionVars false
theorem key_inj : ∀ {L : List (Int × List Nat × Nat)}, (keysG L).Nodup → ∀ {y z}, y ∈ L → z ∈ L → y.1 = z.1 → y = z
  | [], _, _, _, h, _, _ => by cases h
  | a :: L, hn, y, z, hy, hz, e => by
    simp only [keysG, List.map_cons, List.nodup_cons, List.mem_map, not_exists, not_and] at hn
    rcases List.mem_cons.1 hy with e1 | h1
    · rcases List.mem_cons.1 hz with e2 | h2
      · rw [e1, e2]
      · subst e1; exact absurd e.symm (hn.1 z h2)
    · rcases List.mem_cons.1 hz with e2 | h2
      · subst e2; exact absurd e (hn.1 y h1)
      · exact key_inj hn.2 h1 h2 e
theorem mloop (l m r s : Int) (b0 b1 b2 b3 : Bool) (L : List (Int × List Nat × Nat)) (c : Nat) (ro : Bool) (G : List (Int × List Nat × Nat)) (c2 : Nat) (ro2 : Bool) (hs : Stamped (mV L) c) (hkn : (keysG L).Nodup) (hkey : ∀ y ∈ L, 0 ≤ y.1 ∧ y.1 < 4) : LoopOk3 (callD pA tb12 la12 5) c12l0 (.exit 0) (memL 6 [(0, .map (mV L) c ro), (1, .map (mV G) c2 ro2), (2, .cells [.int .i64 l, .int .i64 m, .int .i64 r] false), (3, .cells (inP b0 b1 b2 b3) false), (4, .map [] 0 false), (5, .iter (some 0) c [] c)]) [(s1, .int .i64 s), (s3, .map 0), (s4, .map 1), (s5, .ptr 2 0), (s7, .ptr 3 0), (s12, .nilslice), (s14, .map 4), (s38, .ptr 5 0)] (fun v => List.Perm v (mV L)) (fun v => memL 6 [(0, .map (mV L) c ro), (1, .map (mV G) c2 ro2), (2, .cells [.int .i64 l, .int .i64 m, .int .i64 r] false), (3, .cells (inP b0 b1 b2 b3) false), (4, .map (mV (outG b0 b1 b2 b3 0 v)) (List.length (outG b0 b1 b2 b3 0 v)) false), (5, .iter (some 0) c (stamps v) c)]) (fun v => [(s1, .int .i64 s), (s3, .map 0), (s4, .map 1), (s5, .ptr 2 0), (s7, .ptr 3 0), (s12, .nilslice), (s14, .map 4), (s38, .ptr 5 0)]) := by
  rw [c12l0_eq]
  refine rangeL hs (fun vis => memL 6 [(0, .map (mV L) c ro), (1, .map (mV G) c2 ro2), (2, .cells [.int .i64 l, .int .i64 m, .int .i64 r] false), (3, .cells (inP b0 b1 b2 b3) false), (4, .map (mV (outG b0 b1 b2 b3 0 vis)) (List.length (outG b0 b1 b2 b3 0 vis)) false), (5, (itO 0 c vis))]) (fun vis y => memL 6 [(0, .map (mV L) c ro), (1, .map (mV G) c2 ro2), (2, .cells [.int .i64 l, .int .i64 m, .int .i64 r] false), (3, .cells (inP b0 b1 b2 b3) false), (4, .map (mV (outG b0 b1 b2 b3 0 vis)) (List.length (outG b0 b1 b2 b3 0 vis)) false), (5, (itO1 0 c vis y.2.2))]) (fun _ => [(s1, .int .i64 s), (s3, .map 0), (s4, .map 1), (s5, .ptr 2 0), (s7, .ptr 3 0), (s12, .nilslice), (s14, .map 4), (s38, .ptr 5 0)]) (fun _ => rfl) (fun _ => rfl) (fun _ _ => rfl) (fun _ _ hT => hT.2.2.2.2.2.2.2.1) (fun _ => ⟨rfl, rfl⟩) (fun Y vis y T hvis hy hst hT K hK => ?_)
  obtain ⟨⟨k, g, t⟩, hz, rfl⟩ := mV_mem hy
  obtain ⟨k0, k4⟩ := hkey _ hz
  simp only at k0 k4 hst hK hy
  obtain ⟨n, rfl⟩ := Int.eq_ofNat_of_zero_le k0
  have n4 : n < 4 := by omega
  have hv := inP_nth b0 b1 b2 b3 n n4
  have happ := outG_app b0 b1 b2 b3 (V.int .i64 ((n : Nat) : Int), V.str g, t) vis 0
  rw [Nat.zero_add] at happ
  cases hb : inB4 b0 b1 b2 b3 ((n : Nat) : Int) with
  | false =>
    rw [hb] at hv
    rw [if_neg (show ¬ inB4 b0 b1 b2 b3 (keyI ((V.int .i64 ((n : Nat) : Int), V.str g, t) : En)) = true by show ¬ inB4 b0 b1 b2 b3 ((n : Nat) : Int) = true; rw [hb]; decide), List.append_nil] at happ
    refine ml_n Y l m r s b0 b1 b2 b3 L c ro G c2 ro2 (outG b0 b1 b2 b3 0 vis) _ t n (stamps vis) g n4 (entry_ok hs hy _ _) hv T hT K fun T' hT' => ?_
    have hh := hK T' hT'
    rw [happ, show itO 0 c (vis ++ [(V.int .i64 ((n : Nat) : Int), V.str g, t)]) = .iter (some 0) c (stamps vis ++ [t]) c by unfold itO; rw [stamps_app]] at hh
    exact hh
  | true =>
    rw [hb] at hv
    rw [if_pos (show inB4 b0 b1 b2 b3 (keyI ((V.int .i64 ((n : Nat) : Int), V.str g, t) : En)) = true from hb)] at happ
    have hf : findK (.one .int) (.int .i64 ((n : Nat) : Int)) (mV (outG b0 b1 b2 b3 0 vis)) = some none := find_none fun y hy2 e => by
      obtain ⟨e1, he1, he2⟩ := outG_key b0 b1 b2 b3 vis 0 y hy2
      obtain ⟨z, hz1, rfl⟩ := mV_mem (hvis.sub e1 he1)
      have hzz := key_inj hkn hz1 hz (he2.trans e)
      subst hzz
      exact hst (List.mem_map.2 ⟨_, he1, rfl⟩)
    refine ml_y Y l m r s b0 b1 b2 b3 L c ro G c2 ro2 (outG b0 b1 b2 b3 0 vis) (List.length (outG b0 b1 b2 b3 0 vis)) t n (stamps vis) g n4 (entry_ok hs hy _ _) hv hf (mV ((outG b0 b1 b2 b3 0 vis) ++ [(((n : Nat) : Int), g, (List.length (outG b0 b1 b2 b3 0 vis)))])) (by rw [mV_app]; rfl) T hT K fun T' hT' => ?_
    have hh := hK T' hT'
    rw [happ, show itO 0 c (vis ++ [(V.int .i64 ((n : Nat) : Int), V.str g, t)]) = .iter (some 0) c (stamps vis ++ [t]) c by unfold itO; rw [stamps_app]] at hh
    rw [show (List.length ((outG b0 b1 b2 b3 0 vis) ++ [(keyI (V.int .i64 ((n : Nat) : Int), V.str g, t), valI (V.int .i64 ((n : Nat) : Int), V.str g, t), (List.length (outG b0 b1 b2 b3 0 vis)))])) = List.length (outG b0 b1 b2 b3 0 vis) + 1 by simp] at hh
    exact hh
theorem mloopj (l m r s : Int) (b0 b1 b2 b3 : Bool) (L : List (Int × List Nat × Nat)) (c : Nat) (ro : Bool) (G : List (Int × List Nat × Nat)) (c2 : Nat) (ro2 : Bool) (j : Nat) (ys : List Int) (hs : Stamped (mV L) c) (hkn : (keysG L).Nodup) (hkey : ∀ y ∈ L, 0 ≤ y.1 ∧ y.1 < 4) : LoopOk3 (callD pA tb12 la12 5) c12l0 (.exit 0) (memL 7 [(0, .map (mV L) c ro), (1, .map (mV G) c2 ro2), (2, .cells [.int .i64 l, .int .i64 m, .int .i64 r] false), (3, .cells (inP b0 b1 b2 b3) false), (4, .cells (iV ys) false), (5, .map [] 0 false), (6, .iter (some 0) c [] c)]) [(s1, .int .i64 s), (s3, .map 0), (s4, .map 1), (s5, .ptr 2 0), (s7, .ptr 3 0), (s12, .slice 4 0 j j 1), (s14, .map 5), (s38, .ptr 6 0)] (fun v => List.Perm v (mV L)) (fun v => memL 7 [(0, .map (mV L) c ro), (1, .map (mV G) c2 ro2), (2, .cells [.int .i64 l, .int .i64 m, .int .i64 r] false), (3, .cells (inP b0 b1 b2 b3) false), (4, .cells (iV ys) false), (5, .map (mV (outG b0 b1 b2 b3 0 v)) (List.length (outG b0 b1 b2 b3 0 v)) false), (6, .iter (some 0) c (stamps v) c)]) (fun v => [(s1, .int .i64 s), (s3, .map 0), (s4, .map 1), (s5, .ptr 2 0), (s7, .ptr 3 0), (s12, .slice 4 0 j j 1), (s14, .map 5), (s38, .ptr 6 0)]) := by
  rw [c12l0_eq]
  refine rangeL hs (fun vis => memL 7 [(0, .map (mV L) c ro), (1, .map (mV G) c2 ro2), (2, .cells [.int .i64 l, .int .i64 m, .int .i64 r] false), (3, .cells (inP b0 b1 b2 b3) false), (4, .cells (iV ys) false), (5, .map (mV (outG b0 b1 b2 b3 0 vis)) (List.length (outG b0 b1 b2 b3 0 vis)) false), (6, (itO 0 c vis))]) (fun vis y => memL 7 [(0, .map (mV L) c ro), (1, .map (mV G) c2 ro2), (2, .cells [.int .i64 l, .int .i64 m, .int .i64 r] false), (3, .cells (inP b0 b1 b2 b3) false), (4, .cells (iV ys) false), (5, .map (mV (outG b0 b1 b2 b3 0 vis)) (List.length (outG b0 b1 b2 b3 0 vis)) false), (6, (itO1 0 c vis y.2.2))]) (fun _ => [(s1, .int .i64 s), (s3, .map 0), (s4, .map 1), (s5, .ptr 2 0), (s7, .ptr 3 0), (s12, .slice 4 0 j j 1), (s14, .map 5), (s38, .ptr 6 0)]) (fun _ => rfl) (fun _ => rfl) (fun _ _ => rfl) (fun _ _ hT => hT.2.2.2.2.2.2.2.1) (fun _ => ⟨rfl, rfl⟩) (fun Y vis y T hvis hy hst hT K hK => ?_)
  obtain ⟨⟨k, g, t⟩, hz, rfl⟩ := mV_mem hy
  obtain ⟨k0, k4⟩ := hkey _ hz
  simp only at k0 k4 hst hK hy
  obtain ⟨n, rfl⟩ := Int.eq_ofNat_of_zero_le k0
  have n4 : n < 4 := by omega
  have hv := inP_nth b0 b1 b2 b3 n n4
  have happ := outG_app b0 b1 b2 b3 (V.int .i64 ((n : Nat) : Int), V.str g, t) vis 0
  rw [Nat.zero_add] at happ
  cases hb : inB4 b0 b1 b2 b3 ((n : Nat) : Int) with
  | false =>
    rw [hb] at hv
    rw [if_neg (show ¬ inB4 b0 b1 b2 b3 (keyI ((V.int .i64 ((n : Nat) : Int), V.str g, t) : En)) = true by show ¬ inB4 b0 b1 b2 b3 ((n : Nat) : Int) = true; rw [hb]; decide), List.append_nil] at happ
    refine mlj_n Y l m r s b0 b1 b2 b3 L c ro G c2 ro2 j ys (outG b0 b1 b2 b3 0 vis) _ t n (stamps vis) g n4 (entry_ok hs hy _ _) hv T hT K fun T' hT' => ?_
    have hh := hK T' hT'
    rw [happ, show itO 0 c (vis ++ [(V.int .i64 ((n : Nat) : Int), V.str g, t)]) = .iter (some 0) c (stamps vis ++ [t]) c by unfold itO; rw [stamps_app]] at hh
    exact hh
  | true =>
    rw [hb] at hv
    rw [if_pos (show inB4 b0 b1 b2 b3 (keyI ((V.int .i64 ((n : Nat) : Int), V.str g, t) : En)) = true from hb)] at happ
    have hf : findK (.one .int) (.int .i64 ((n : Nat) : Int)) (mV (outG b0 b1 b2 b3 0 vis)) = some none := find_none fun y hy2 e => by
      obtain ⟨e1, he1, he2⟩ := outG_key b0 b1 b2 b3 vis 0 y hy2
      obtain ⟨z, hz1, rfl⟩ := mV_mem (hvis.sub e1 he1)
      have hzz := key_inj hkn hz1 hz (he2.trans e)
      subst hzz
      exact hst (List.mem_map.2 ⟨_, he1, rfl⟩)
    refine mlj_y Y l m r s b0 b1 b2 b3 L c ro G c2 ro2 j ys (outG b0 b1 b2 b3 0 vis) (List.length (outG b0 b1 b2 b3 0 vis)) t n (stamps vis) g n4 (entry_ok hs hy _ _) hv hf (mV ((outG b0 b1 b2 b3 0 vis) ++ [(((n : Nat) : Int), g, (List.length (outG b0 b1 b2 b3 0 vis)))])) (by rw [mV_app]; rfl) T hT K fun T' hT' => ?_
    have hh := hK T' hT'
    rw [happ, show itO 0 c (vis ++ [(V.int .i64 ((n : Nat) : Int), V.str g, t)]) = .iter (some 0) c (stamps vis ++ [t]) c by unfold itO; rw [stamps_app]] at hh
    rw [show (List.length ((outG b0 b1 b2 b3 0 vis) ++ [(keyI (V.int .i64 ((n : Nat) : Int), V.str g, t), valI (V.int .i64 ((n : Nat) : Int), V.str g, t), (List.length (outG b0 b1 b2 b3 0 vis)))])) = List.length (outG b0 b1 b2 b3 0 vis) + 1 by simp] at hh
    exact hh
end Go.Proofs.Ytjikaankdnmabaa
