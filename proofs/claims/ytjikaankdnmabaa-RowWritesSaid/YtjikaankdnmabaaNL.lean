/- Needs: the loop. No condition. -/
import Derived.Test.YtjikaankdnmabaaNK
import Derived.Test.YtjikaankdnmabaaVW
namespace Go.Proofs.Ytjikaankdnmabaa
open Go Go.AM
set_option maxRecDepth 100000
set_option maxHeartbeats 4000000
set_option linter.unusedVariables false
set_option linter.unusedSectionVars false
def goodW (m p : Int) (L : List (Int × List Nat × Nat)) : Prop := ∀ y ∈ L, y.1 ∈ dataL m p ∧ y.2.1.length = 64
instance (m p : Int) (L : List (Int × List Nat × Nat)) : Decidable (goodW m p L) := by unfold goodW; infer_instance
noncomputable def needE (l m r s : Int) (b0 b1 b2 b3 : Bool) (L : List (Int × List Nat × Nat)) : Int := if mayE l m r s b0 b1 b2 b3 ≠ 0 then mayE l m r s b0 b1 b2 b3 else if goodW m (pz l m r s) L ∧ L ≠ [] then 0 else 1
noncomputable def needY (l m r s : Int) (b0 b1 b2 b3 : Bool) (L : List (Int × List Nat × Nat)) : List Int :=
  if inB4 b0 b1 b2 b3 (pz l m r s) = false then [] else if (sortI (restL L (dataL m (pz l m r s)))).all (inB4 b0 b1 b2 b3) = true then sortI (restL L (dataL m (pz l m r s))) else sortI (keysG L ++ [pz l m r s])
structure MapOk (L : List (Int × List Nat × Nat)) (c : Nat) : Prop where
  lt : ∀ y ∈ L, y.2.2 < c
  st : (L.map fun y => y.2.2).Nodup
  ks : (keysG L).Nodup
  small : L.length ≤ 1000
inductive S10 : Con → Prop
  | err (l m r s : Int) (b0 b1 b2 b3 : Bool) (L : List (Int × List Nat × Nat)) (c : Nat) (ro : Bool) (h : MapOk L c) (e : Int) (he : e ≠ 0) (h : needE l m r s b0 b1 b2 b3 L = e) : S10 ⟨[geo l m r, .int .i64 s, ag b0 b1 b2 b3, .map 0], [.map (mV L) c ro], .tuple [.nilslice, .int .i64 e], [.map (mV L) c ro], []⟩
  | nil (l m r s : Int) (b0 b1 b2 b3 : Bool) (L : List (Int × List Nat × Nat)) (c : Nat) (ro : Bool) (h : MapOk L c) (he : needE l m r s b0 b1 b2 b3 L = 0) (hy : needY l m r s b0 b1 b2 b3 L = []) : S10 ⟨[geo l m r, .int .i64 s, ag b0 b1 b2 b3, .map 0], [.map (mV L) c ro], .tuple [.nilslice, .int .i64 0], [.map (mV L) c ro], []⟩
  | mk (l m r s : Int) (b0 b1 b2 b3 : Bool) (L : List (Int × List Nat × Nat)) (c : Nat) (ro : Bool) (h : MapOk L c) (he : needE l m r s b0 b1 b2 b3 L = 0) (j : Nat) (hj : (needY l m r s b0 b1 b2 b3 L).length = j) (h1 : 1 ≤ j) : S10 ⟨[geo l m r, .int .i64 s, ag b0 b1 b2 b3, .map 0], [.map (mV L) c ro], .tuple [.slice 1 0 j j 1, .int .i64 0], [.map (mV L) c ro], [(1, .cells (iV (needY l m r s b0 b1 b2 b3 L)) false)]⟩
theorem keyE_mV : ∀ (L : List (Int × List Nat × Nat)), keysE (mV L) = keysG L
  | [] => rfl
  | (n, s, t) :: L => by
    have := keyE_mV L
    simp only [keysE, keysG] at this
    simp only [mV, keysE, keysG, List.map_cons, this]; rfl
theorem dataL_mem {m p x : Int} (hm : m = 2 ∨ m = 3 ∨ m = 4) (hp : 0 ≤ p ∧ p < m) (h : x ∈ dataL m p) : 0 ≤ x ∧ x < m ∧ x ≠ p := by
  simp only [dataL, List.mem_map, List.mem_range] at h
  obtain ⟨d, hd, rfl⟩ := h
  rcases hm with rfl | rfl | rfl
  · have : d < 1 := hd
    omega
  · have : d < 2 := hd
    omega
  · have : d < 3 := hd
    omega
theorem good_len {m p : Int} (hm : m = 2 ∨ m = 3 ∨ m = 4) (hp : 0 ≤ p ∧ p < m) {L : List (Int × List Nat × Nat)} (h : goodW m p L) (hk : (keysG L).Nodup) : L.length ≤ 3 := by
  match L, h, hk with
  | [], _, _ => simp
  | [_], _, _ => simp
  | [_, _], _, _ => simp
  | [_, _, _], _, _ => simp
  | a :: b :: d :: e :: L, h, hk =>
    exfalso
    have ha := dataL_mem hm hp (h a (by simp)).1
    have hb := dataL_mem hm hp (h b (by simp)).1
    have hd := dataL_mem hm hp (h d (by simp)).1
    have he := dataL_mem hm hp (h e (by simp)).1
    simp only [keysG, List.map_cons, List.nodup_cons, List.mem_cons, not_or] at hk
    obtain ⟨⟨k1, k2, k3, _⟩, ⟨k4, k5, _⟩, ⟨k6, _⟩, _⟩ := hk
    omega
theorem inP_nth (b0 b1 b2 b3 : Bool) : ∀ n : Nat, n < 4 → nth (inP b0 b1 b2 b3) n = some (.bool (inB4 b0 b1 b2 b3 ((n : Nat) : Int)))
  | 0, _ => rfl
  | 1, _ => rfl
  | 2, _ => rfl
  | 3, _ => rfl
  | n + 4, h => absurd h (by omega)
theorem wf33 (l m r s : Int) (L : List (Int × List Nat × Nat)) (c : Nat) (ro : Bool) (j : Nat) (ys : List Int) : Con.wf ⟨[geo l m r, .int .i64 s, .map 0], [.map (mV L) c ro], .slice 5 0 j j 1, [.map (mV L) c ro], [(5, .cells (iV ys) false)]⟩ = true := by
  simp only [Con.wf, bels, V.bel, Con.p0, Con.p1, hasN, List.length_cons, List.length_nil, List.all_cons, List.all_nil, AObj.bel, bels_iV, ebels_mV, AObj.live, AObj.wr, Bool.and_true, nodupN, Bool.and_self]
  rfl
theorem wf330 (l m r s : Int) (L : List (Int × List Nat × Nat)) (c : Nat) (ro : Bool) : Con.wf ⟨[geo l m r, .int .i64 s, .map 0], [.map (mV L) c ro], .nilslice, [.map (mV L) c ro], []⟩ = true := by
  simp only [Con.wf, bels, V.bel, Con.p0, List.length_cons, List.length_nil, List.all_cons, List.all_nil, AObj.bel, ebels_mV, AObj.live, Bool.and_true, nodupN, Bool.and_self]
  rfl
theorem wf34 (b0 b1 b2 b3 v : Bool) (j : Nat) (ys : List Int) : Con.wf ⟨[ag b0 b1 b2 b3, .slice 0 0 j j 1], [.cells (iV ys) false], .bool v, [.cells (iV ys) false], []⟩ = true := by
  simp only [Con.wf, bels, V.bel, Con.p0, List.length_cons, List.length_nil, List.all_cons, List.all_nil, AObj.bel, bels_iV, AObj.live, Bool.and_true, nodupN, Bool.and_self]
  rfl
theorem wf31 (k : Nat) (x : Int) (zs : List Int) (v : Bool) : Con.wf ⟨[.slice 0 0 k k 1, .int .i64 x], [.cells (iV zs) false], .bool v, [.cells (iV zs) false], []⟩ = true := by
  simp only [Con.wf, bels, V.bel, Con.p0, List.length_cons, List.length_nil, List.all_cons, List.all_nil, AObj.bel, bels_iV, AObj.live, Bool.and_true, nodupN, Bool.and_self]
  rfl
theorem wfQ37 (L : List (Int × List Nat × Nat)) (c : Nat) (ro : Bool) (n : Nat) (ks : List Int) : Con.wf ⟨[.func (.func 56) [] [.ptr 0 0]], [.cells [.map 1] false, .map (mV L) c ro], .slice 2 0 n n 1, [.cells [.map 1] false, .map (mV L) c ro], [(2, .cells (iV ks) false)]⟩ = true := by
  simp only [Con.wf, bels, V.bel, Con.p0, Con.p1, hasN, List.length_cons, List.length_nil, List.all_cons, List.all_nil, AObj.bel, bels_iV, ebels_mV, AObj.live, AObj.wr, Bool.and_true, nodupN, Bool.and_self]
  rfl
def badN (zs : List Int) (y : En) : Prop := ¬ (keyI y ∈ zs ∧ ∃ g, y.2.1 = .str g ∧ g.length = 64)
theorem nl_ok (l m r s : Int) (b0 b1 b2 b3 : Bool) {L : List (Int × List Nat × Nat)} {c : Nat} (ro : Bool) (k : Nat) (zs : List Int) (hk : zs.length = k) (k1 : 1 ≤ k) (k3 : k ≤ 3) (hs : Stamped (mV L) c) (hb : ∀ y ∈ mV L, ¬ badN zs y) : LoopOk3 (callD pA tb10 la10 5) c10l0 (.exit 0) (memL 5 [(0, .map (mV L) c ro), (1, .cells [.int .i64 l, .int .i64 m, .int .i64 r] false), (2, .cells (inP b0 b1 b2 b3) false), (3, .cells (iV zs) false), (4, .iter (some 0) c [] c)]) [(s1, .int .i64 s), (s3, .map 0), (s4, .ptr 1 0), (s6, .ptr 2 0), (s11, .slice 3 0 k k 1), (s28, .ptr 4 0)] (fun v => List.Perm v (mV L)) (fun v => memL 5 [(0, .map (mV L) c ro), (1, .cells [.int .i64 l, .int .i64 m, .int .i64 r] false), (2, .cells (inP b0 b1 b2 b3) false), (3, .cells (iV zs) false), (4, .iter (some 0) c (stamps v) c)]) (fun v => [(s1, .int .i64 s), (s3, .map 0), (s4, .ptr 1 0), (s6, .ptr 2 0), (s11, .slice 3 0 k k 1), (s28, .ptr 4 0)]) := by
  rw [c10l0_eq]
  refine rangeL hs (fun vis => memL 5 [(0, .map (mV L) c ro), (1, .cells [.int .i64 l, .int .i64 m, .int .i64 r] false), (2, .cells (inP b0 b1 b2 b3) false), (3, .cells (iV zs) false), (4, itO 0 c vis)]) (fun vis y => memL 5 [(0, .map (mV L) c ro), (1, .cells [.int .i64 l, .int .i64 m, .int .i64 r] false), (2, .cells (inP b0 b1 b2 b3) false), (3, .cells (iV zs) false), (4, itO1 0 c vis y.2.2)]) (fun _ => [(s1, .int .i64 s), (s3, .map 0), (s4, .ptr 1 0), (s6, .ptr 2 0), (s11, .slice 3 0 k k 1), (s28, .ptr 4 0)]) (fun _ => rfl) (fun _ => rfl) (fun _ _ => rfl) (fun _ _ hT => hT.2.2.2.2.2.1) (fun _ => ⟨rfl, rfl⟩) (fun Y vis y T _ hy _ hT K hK => ?_)
  obtain ⟨z, hz, rfl⟩ := mV_mem hy
  have hg := Classical.not_not.1 (hb _ hy)
  obtain ⟨g1, g, g2, g3⟩ := hg
  cases g2
  have h31 := S31.mk zs z.1 k hk k1 k3
  rw [decide_eq_true (show z.1 ∈ zs from g1)] at h31
  refine nl_g Y l m r s b0 b1 b2 b3 L c ro k zs z.2.2 (stamps vis) z.1 z.2.1 (entry_ok hs hy _ _) h31 (wf31 _ _ _ _) g3 T hT K fun T' hT' => ?_
  have := hK T' hT'
  rw [show itO 0 c (vis ++ [(V.int .i64 z.1, V.str z.2.1, z.2.2)]) = .iter (some 0) c (stamps vis ++ [z.2.2]) c by unfold itO; rw [stamps_app]] at this
  exact this
theorem nl_bad (l m r s : Int) (b0 b1 b2 b3 : Bool) {L : List (Int × List Nat × Nat)} {c : Nat} (ro : Bool) (k : Nat) (zs : List Int) (hk : zs.length = k) (k1 : 1 ≤ k) (k3 : k ≤ 3) (hs : Stamped (mV L) c) (hb : ∃ y ∈ mV L, badN zs y) : LoopOk3 (callD pA tb10 la10 5) c10l0 .ret (memL 5 [(0, .map (mV L) c ro), (1, .cells [.int .i64 l, .int .i64 m, .int .i64 r] false), (2, .cells (inP b0 b1 b2 b3) false), (3, .cells (iV zs) false), (4, .iter (some 0) c [] c)]) [(s1, .int .i64 s), (s3, .map 0), (s4, .ptr 1 0), (s6, .ptr 2 0), (s11, .slice 3 0 k k 1), (s28, .ptr 4 0)] (fun v => Vis (mV L) v) (fun v => memL 5 [(0, .map (mV L) c ro), (1, .cells [.int .i64 l, .int .i64 m, .int .i64 r] false), (2, .cells (inP b0 b1 b2 b3) false), (3, .cells (iV zs) false), (4, .iter (some 0) c (stamps v) c)]) (fun v => [(s8, .nilslice), (s9, .int .i64 1)]) := by
  rw [c10l0_eq]
  refine rangeX hs (badN zs) (fun vis => memL 5 [(0, .map (mV L) c ro), (1, .cells [.int .i64 l, .int .i64 m, .int .i64 r] false), (2, .cells (inP b0 b1 b2 b3) false), (3, .cells (iV zs) false), (4, itO 0 c vis)]) (fun vis y => memL 5 [(0, .map (mV L) c ro), (1, .cells [.int .i64 l, .int .i64 m, .int .i64 r] false), (2, .cells (inP b0 b1 b2 b3) false), (3, .cells (iV zs) false), (4, itO1 0 c vis y.2.2)]) (fun _ => [(s1, .int .i64 s), (s3, .map 0), (s4, .ptr 1 0), (s6, .ptr 2 0), (s11, .slice 3 0 k k 1), (s28, .ptr 4 0)]) (by intro h; cases h) _ _ (fun _ => rfl) (fun _ => rfl) (fun _ _ => rfl) (fun _ _ hT => hT.2.2.2.2.2.1) (fun _ => ⟨rfl, rfl⟩) (fun Y vis y T _ hy _ hnb hT K hK => ?_) (fun Y vis y T _ hy _ hbd hT K hK => ?_) hb
  · obtain ⟨z, hz, rfl⟩ := mV_mem hy
    have hg := Classical.not_not.1 hnb
    obtain ⟨g1, g, g2, g3⟩ := hg
    cases g2
    have h31 := S31.mk zs z.1 k hk k1 k3
    rw [decide_eq_true (show z.1 ∈ zs from g1)] at h31
    refine nl_g Y l m r s b0 b1 b2 b3 L c ro k zs z.2.2 (stamps vis) z.1 z.2.1 (entry_ok hs hy _ _) h31 (wf31 _ _ _ _) g3 T hT K fun T' hT' => ?_
    have := hK T' hT'
    rw [show itO 0 c (vis ++ [(V.int .i64 z.1, V.str z.2.1, z.2.2)]) = .iter (some 0) c (stamps vis ++ [z.2.2]) c by unfold itO; rw [stamps_app]] at this
    exact this
  · obtain ⟨z, hz, rfl⟩ := mV_mem hy
    have h31 := S31.mk zs z.1 k hk k1 k3
    by_cases hz1 : z.1 ∈ zs
    · rw [decide_eq_true hz1] at h31
      have hg : z.2.1.length ≠ 64 := fun e => hbd ⟨hz1, _, rfl, e⟩
      refine nl_c Y l m r s b0 b1 b2 b3 L c ro k zs z.2.2 (stamps vis) z.1 z.2.1 (entry_ok hs hy _ _) h31 (wf31 _ _ _ _) hg T hT K fun T' hT' => ?_
      have := hK T' hT'
      rw [stamps_app] at this
      exact this
    · rw [decide_eq_false hz1] at h31
      refine nl_b Y l m r s b0 b1 b2 b3 L c ro k zs z.2.2 (stamps vis) z.1 z.2.1 (entry_ok hs hy _ _) h31 (wf31 _ _ _ _) T hT K fun T' hT' => ?_
      have := hK T' hT'
      rw [stamps_app] at this
      exact this
end Go.Proofs.Ytjikaankdnmabaa
