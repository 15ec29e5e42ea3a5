/- What counts answers. No condition. -/
import Derived.Test.YthmbmcpjakbepaaKW
namespace Go.Proofs.Ythmbmcpjakbepaa
open Go Go.AM
set_option maxRecDepth 100000
set_option maxHeartbeats 4000000
set_option linter.unusedVariables false
set_option linter.unusedSectionVars false
theorem eqC_cons {k : SK} {ks : List SK} {a b : V} {la lb : List V} {x y : Bool} (h1 : eqS k a b = some x) (h2 : eqCells ks la lb = some y) : eqCells (k :: ks) (a :: la) (b :: lb) = some (x && y) := by
 simp only [eqCells, h1]
 cases x
 ·simp only [h2, Bool.false_and]
 ·simp only [h2, Bool.true_and]
theorem keyEq_sp (s t : Sp) : keyEq K12 s.v t.v = some (decide (s = t)) := by
 have h : keyEq K12 s.v t.v = some (eqI s.a t.a && (eqI s.m t.m && (eqI s.l t.l && (eqI s.n t.n && (eqI s.r t.r && (eqI s.e t.e && (eqI s.p t.p && (eqI s.x0 t.x0 && (eqI s.x1 t.x1 && (eqI s.x2 t.x2 && (eqI s.x3 t.x3 && (eqI s.c t.c && true)))))))))))) := (eqC_cons rfl (eqC_cons rfl (eqC_cons rfl (eqC_cons rfl (eqC_cons rfl (eqC_cons rfl (eqC_cons rfl (eqC_cons rfl (eqC_cons rfl (eqC_cons rfl (eqC_cons rfl (eqC_cons rfl rfl))))))))))))
 rw [h]
 simp only [eqI_eq]
 cases s; cases t
 simp only [Sp.mk.injEq, Bool.decide_and, Bool.and_true]
theorem find_vV (k : Sp) : ∀ (L : List (Sp × Nat)) (i x : Nat), findE K12 k.v (vV i L) x = some (bif hasW k L then some (x + posW k L, .int .i64 ((getW k L : Nat) : Int)) else none)
 | [], i, x => rfl
 | (j, n) :: L, i, x => by
  simp only [vV, findE, keyEq_sp, hasW, posW, getW]
  by_cases h : k = j
  ·simp only [h, decide_true, if_true, Bool.true_or, cond_true, Nat.add_zero]
  ·simp only [h, decide_false, if_false, Bool.false_or]
   rw [find_vV k L (i + 1) (x + 1)]
   cases hasW k L
   ·rfl
   ·simp only [cond_true]; rw [show x + 1 + posW k L = x + (posW k L + 1) from by omega]
theorem getW_no (k : Sp) : ∀ L : List (Sp × Nat), hasW k L = false → getW k L = 0
 | [], _ => rfl
 | (j, n) :: L, h => by
  simp only [hasW, Bool.or_eq_false_iff, decide_eq_false_iff_not] at h
  simp only [getW, h.1, if_false]; exact getW_no k L h.2
theorem keyOk_sp (k : Sp) : keyOk K12 k.v = true := rfl
theorem look_vV (k : Sp) (L : List (Sp × Nat)) (i : Nat) : lookV K12 false (.int .i64 0) k.v (vV i L) = some (.int .i64 ((getW k L : Nat) : Int)) := by
 simp only [lookV, findK, keyOk_sp, cond_true, find_vV]
 cases h : hasW k L
 ·simp only [cond_false, getW_no k L h]; rfl
 ·simp only [cond_true, cond_false]
theorem vV_app : ∀ (L R : List (Sp × Nat)) (i : Nat), vV i (L ++ R) = vV i L ++ vV (i + L.length) R
 | [], R, i => rfl
 | (k, n) :: L, R, i => by
  simp only [List.cons_append, vV, vV_app L R (i + 1), List.length_cons]
  rw [show i + 1 + L.length = i + (L.length + 1) from by omega]
theorem nth_vV (k : Sp) : ∀ (L : List (Sp × Nat)) (i : Nat), hasW k L = true → nth (vV i L) (posW k L) = some (k.v, .int .i64 ((getW k L : Nat) : Int), i + posW k L)
 | [], i, h => by cases h
 | (j, n) :: L, i, h => by
  simp only [hasW, Bool.or_eq_true, decide_eq_true_eq] at h
  by_cases e : k = j
  ·subst e; simp only [vV, posW, getW, if_true, nth, Nat.add_zero]
  ·simp only [vV, posW, getW, e, if_false, nth]
   rw [nth_vV k L (i + 1) (h.resolve_left e), show i + 1 + posW k L = i + (posW k L + 1) from by omega]
theorem modify_key (k : Sp) : ∀ (L : List (Sp × Nat)) (i : Nat), hasW k L = true → (vV i L).modify (posW k L) (fun e => (k.v, e.2)) = vV i L
 | [], i, h => by cases h
 | (j, n) :: L, i, h => by
  simp only [hasW, Bool.or_eq_true, decide_eq_true_eq] at h
  by_cases e : k = j
  ·subst e; simp only [vV, posW, if_true]; rfl
  ·simp only [vV, posW, e, if_false, List.modify_succ_cons]
   rw [modify_key k L (i + 1) (h.resolve_left e)]
theorem preW_yes (k : Sp) : ∀ L : List (Sp × Nat), hasW k L = true → preW k L = L
 | [], h => by cases h
 | (j, n) :: L, h => by
  simp only [hasW, Bool.or_eq_true, decide_eq_true_eq] at h
  by_cases e : k = j
  ·simp only [preW, e, if_true]
  ·simp only [preW, e, if_false]; rw [preW_yes k L (h.resolve_left e)]
theorem preW_no (k : Sp) : ∀ L : List (Sp × Nat), hasW k L = false → preW k L = L ++ [(k, 0)]
 | [], h => rfl
 | (j, n) :: L, h => by
  simp only [hasW, Bool.or_eq_false_iff, decide_eq_false_iff_not] at h
  simp only [preW, h.1, if_false, List.cons_append]; rw [preW_no k L h.2]
theorem posW_no (k : Sp) : ∀ L : List (Sp × Nat), hasW k L = false → posW k L = L.length
 | [], h => rfl
 | (j, n) :: L, h => by
  simp only [hasW, Bool.or_eq_false_iff, decide_eq_false_iff_not] at h
  simp only [posW, h.1, if_false, List.length_cons]; rw [posW_no k L h.2]
theorem addW_length (k : Sp) : ∀ L : List (Sp × Nat), (addW k L).length = (preW k L).length
 | [] => rfl
 | (j, n) :: L => by
  simp only [addW, preW]
  split
  ·rfl
  ·simp only [List.length_cons, addW_length k L]
theorem ment_vV (k : Sp) (L : List (Sp × Nat)) : mentV K12 (.int .i64 0) k.v (vV 0 L) L.length = some (.tuple [.int .i64 ((getW k L : Nat) : Int), .int .i64 ((posW k L : Nat) : Int)], vV 0 (preW k L), (addW k L).length) := by
 simp only [mentV, findK, keyOk_sp, cond_true, find_vV]
 cases h : hasW k L
 ·simp only [cond_false, preW_no k L h, posW_no k L h, getW_no k L h, vV_app, addW_length, List.length_append, vV, Nat.zero_add, List.length_cons, List.length_nil]; rfl
 ·simp only [cond_true, Nat.zero_add, nth_vV k L 0 h, modify_key k L 0 h, preW_yes k L h, addW_length]; rfl
theorem getW_pre (k : Sp) : ∀ L : List (Sp × Nat), getW k (preW k L) = getW k L
 | [] => by simp only [preW, getW, if_true]
 | (j, n) :: L => by
  simp only [preW]
  split
  ·rename_i h; simp only [getW, h, if_true]
  ·rename_i h; simp only [getW, h, if_false]; exact getW_pre k L
theorem findB_vV (k : Sp) : ∀ (L : List (Sp × Nat)) (i x : Nat), findB (i + posW k L) (vV i (preW k L)) x = some (x + posW k L)
 | [], i, x => by simp only [preW, vV, posW, findB, Nat.add_zero, Nat.beq_refl, cond_true]
 | (j, n) :: L, i, x => by
  by_cases e : k = j
  ·simp only [preW, posW, e, if_true, vV, findB, Nat.add_zero, Nat.beq_refl, cond_true]
  ·simp only [preW, posW, e, if_false, vV, findB]
   rw [nbeqF (show i ≠ i + (posW k L + 1) from by omega), cond_false, show i + (posW k L + 1) = i + 1 + posW k L from by omega, findB_vV k L (i + 1) (x + 1)]
   exact congrArg some (by omega)
theorem modify_add (k : Sp) : ∀ (L : List (Sp × Nat)) (i : Nat), (vV i (preW k L)).modify (posW k L) (fun e => (e.1, .int .i64 ((getW k L + 1 : Nat) : Int), e.2.2)) = vV i (addW k L)
 | [], i => by simp only [preW, vV, posW, getW, addW]; rfl
 | (j, n) :: L, i => by
  by_cases e : k = j
  ·simp only [preW, posW, getW, addW, e, if_true, vV]; rfl
  ·simp only [preW, posW, getW, addW, e, if_false, vV, List.modify_succ_cons]
   rw [modify_add k L (i + 1)]
theorem esto_vV (k : Sp) (L : List (Sp × Nat)) : estoV (posW k L) (.int .i64 ((getW k L + 1 : Nat) : Int)) (vV 0 (preW k L)) = some (vV 0 (addW k L)) := by
 have h := findB_vV k L 0 0
 rw [Nat.zero_add] at h
 simp only [estoV, h, modify_add]
theorem erens_vV (σ : Nat → Nat) : ∀ (L : List (Sp × Nat)) (i : Nat), erens σ (vV i L) = vV i L
 | [], i => rfl
 | (k, n) :: L, i => by simp only [vV, erens, erens_vV σ L]; rfl
theorem ebels_vV (p : Nat → Bool) : ∀ (L : List (Sp × Nat)) (i : Nat), ebels p (vV i L) = true
 | [], i => rfl
 | (k, n) :: L, i => by simp only [vV, ebels, ebels_vV p L]; rfl
theorem erens_oV (σ : Nat → Nat) : ∀ (L : List (Nat × Sp)) (i : Nat), erens σ (oV i L) = oV i L
 | [], i => rfl
 | (k, n) :: L, i => by simp only [oV, erens, erens_oV σ L]; rfl
theorem ebels_oV (p : Nat → Bool) : ∀ (L : List (Nat × Sp)) (i : Nat), ebels p (oV i L) = true
 | [], i => rfl
 | (k, n) :: L, i => by simp only [oV, ebels, ebels_oV p L]; rfl
theorem oV_length : ∀ (L : List (Nat × Sp)) (i : Nat), (oV i L).length = L.length
 | [], i => rfl
 | (k, n) :: L, i => by simp only [oV, List.length_cons, oV_length L]
theorem getW_add (k j : Sp) : ∀ L : List (Sp × Nat), getW k (addW j L) = getW k L + (if k = j then 1 else 0)
 | [] => by
  simp only [addW, getW, Nat.zero_add]
 | (x, n) :: L => by
  simp only [addW]
  split
  ·rename_i h
   subst h
   simp only [getW]
   split <;> omega
  ·rename_i h
   simp only [getW]
   split
   ·rename_i e; subst e
    rw [if_neg (fun e => h e.symm), Nat.add_zero]
   ·exact getW_add k j L
def voteL (l : List Sp) : List (Sp × Nat) := l.foldl (fun W s => addW (says s) W) []
theorem getW_fold (k : Sp) : ∀ (l : List Sp) (W : List (Sp × Nat)), getW k (l.foldl (fun W s => addW (says s) W) W) = getW k W + (l.filter fun s => decide (says s = k)).length
 | [], W => rfl
 | s :: l, W => by
  rw [List.foldl_cons, getW_fold k l, getW_add, List.filter_cons]
  by_cases h : says s = k
  ·rw [if_pos h.symm]; simp only [h, decide_true, if_true, List.length_cons]; omega
  ·rw [if_neg (fun e => h e.symm)]; simp only [h, decide_false]; rfl
def cnt (k : Sp) (l : List Sp) : Nat := (l.filter fun s => decide (says s = k)).length
theorem getW_vote (k : Sp) (l : List Sp) : getW k (voteL l) = cnt k l := by
 rw [voteL, getW_fold]; exact Nat.zero_add _
theorem cnt_perm (k : Sp) {l l' : List Sp} (h : l.Perm l') : cnt k l = cnt k l' := (h.filter _).length_eq
def maxE (l : List Sp) : Int := l.foldl (fun g s => bif decide (s.e > g) then s.e else g) 0
theorem maxE_perm {l l' : List Sp} (h : l.Perm l') : maxE l = maxE l' := by
 refine List.Perm.foldl_eq' h (fun x _ y _ z => ?_) 0
 by_cases h1 : x.e > z <;> by_cases h2 : y.e > z <;> by_cases h3 : x.e > y.e <;> by_cases h4 : y.e > x.e <;> simp only [h1, h2, h3, h4, decide_true, decide_false, cond_true, cond_false] <;> omega
def spE (e : En) : Sp := match e.2.1 with
 | .agg [.int _ a, .int _ m, .int _ l, .int _ n, .int _ r, .int _ e, .int _ p, .int _ x0, .int _ x1, .int _ x2, .int _ x3, .int _ c] => ⟨a, m, l, n, r, e, p, x0, x1, x2, x3, c⟩
 | _ => sp0
def sps (vis : List En) : List Sp := vis.map spE
theorem spE_v (d : V) (i : Nat) (s : Sp) : spE (d, s.v, i) = s := rfl
theorem sps_app (vis : List En) (e : En) : sps (vis ++ [e]) = sps vis ++ [spE e] := by simp [sps]
theorem mem_oV : ∀ (L : List (Nat × Sp)) (i : Nat) (e : En), e ∈ oV i L → ∃ (d : Nat) (s : Sp) (j : Nat), e = (.int .i64 ((d : Nat) : Int), s.v, j) ∧ (d, s) ∈ L ∧ j < i + L.length
 | [], _, _, h => by cases h
 | (d, s) :: L, i, e, h => by
  simp only [oV, List.mem_cons] at h
  rcases h with rfl | h
  ·exact ⟨d, s, i, rfl, List.mem_cons_self, by simp only [List.length_cons]; omega⟩
  ·obtain ⟨d', s', j, e1, e2, e3⟩ := mem_oV L (i + 1) e h
   exact ⟨d', s', j, e1, List.mem_cons_of_mem _ e2, by simp only [List.length_cons]; omega⟩
theorem sps_oV : ∀ (L : List (Nat × Sp)) (i : Nat), sps (oV i L) = L.map (·.2)
 | [], _ => rfl
 | (d, s) :: L, i => by
  have h := sps_oV L (i + 1)
  simp only [sps] at h
  simp only [oV, sps, List.map_cons, h, spE_v]
theorem stamps_oV : ∀ (L : List (Nat × Sp)) (i : Nat), stamps (oV i L) = List.range' i L.length
 | [], _ => rfl
 | (d, s) :: L, i => by
  have h := stamps_oV L (i + 1)
  simp only [stamps] at h
  simp only [oV, stamps, List.map_cons, h, List.length_cons, List.range'_succ]
theorem keyI_oV : ∀ (L : List (Nat × Sp)) (i : Nat), (oV i L).map keyI = keysO L
 | [], _ => rfl
 | (d, s) :: L, i => by
  simp only [oV, List.map_cons, keyI_oV L (i + 1), keysO]; rfl
structure OwnOk (L : List (Nat × Sp)) : Prop where
 ne : L ≠ []
 len : L.length ≤ 100
 inc : L.Pairwise fun x y => x.1 < y.1
 n : ∀ x ∈ L, x.2.n = 2 ∨ x.2.n = 3 ∨ x.2.n = 4
theorem stamped_oV {L : List (Nat × Sp)} (h : L.length ≤ 100) : Stamped (oV 0 L) L.length := by
 refine ⟨fun e he => ?_, ?_, ?_⟩
 ·obtain ⟨d, s, j, rfl, _, hj⟩ := mem_oV L 0 e he
  show j < L.length
  omega
 ·rw [stamps_oV]; exact List.nodup_range' _ (by decide)
 ·rw [oV_length]; have h1 : rounds - 1 > 1000 := by decide
  omega
theorem sort_keys {L : List (Nat × Sp)} (h : L.Pairwise fun x y => x.1 < y.1) : sortI (keysO L) = keysO L := by
 refine List.mergeSort_of_pairwise ?_
 rw [keysO, List.pairwise_map]
 exact h.imp fun h => by rw [decide_eq_true_eq]; omega
theorem look_oV {z : V} : ∀ (L : List (Nat × Sp)) (i x : Nat), (L.Pairwise fun x y => x.1 < y.1) → ∀ d s, (d, s) ∈ L → ∃ j, findE (.one .int) (.int .i64 ((d : Nat) : Int)) (oV i L) x = some (some (j, s.v))
 | [], _, _, _, _, _, h => by cases h
 | (d', s') :: L, i, x, hp, d, s, h => by
  rw [List.pairwise_cons] at hp
  have hk : keyEq (.one .int) (.int .i64 ((d : Nat) : Int)) (.int .i64 ((d' : Nat) : Int)) = some (decide (((d : Nat) : Int) = ((d' : Nat) : Int))) := by
   show some (eqI _ _) = _
   rw [eqI_eq]
  simp only [oV, findE, hk]
  rcases List.mem_cons.1 h with h | h
  ·cases h
   simp only [decide_true]
   exact ⟨x, rfl⟩
  ·have h1 := hp.1 _ h
   rw [decide_eq_false (show ¬ ((d : Nat) : Int) = ((d' : Nat) : Int) from by simp only at h1; omega)]
   exact look_oV (z := z) L (i + 1) (x + 1) hp.2 d s h
theorem lookO {L : List (Nat × Sp)} (hp : L.Pairwise fun x y => x.1 < y.1) (z : V) {d : Nat} {s : Sp} (h : (d, s) ∈ L) : lookV (.one .int) false z (.int .i64 ((d : Nat) : Int)) (oV 0 L) = some s.v := by
 obtain ⟨j, hj⟩ := look_oV (z := z) L 0 0 hp d s h
 simp only [lookV, findK, keyOk, cond_true, hj, cond_false]
abbrev m39 (L : List (Nat × Sp)) (W : List (Sp × Nat)) (S : List Nat) : Mem := memL 5 [(0, .map (oV 0 L) L.length false), (1, .cells cel0 false), (2, .map (vV 0 W) W.length false), (3, .cells [.map 2] false), (4, .iter (some 0) L.length S L.length)]
abbrev g39 (L : List (Nat × Sp)) (W : List (Sp × Nat)) (S : List Nat) (s : Sp) : Mem := memL 8 [(0, .map (oV 0 L) L.length false), (1, .cells cel0 false), (2, .map (vV 0 W) W.length false), (3, .cells [.map 2] false), (4, .iter (some 0) L.length S L.length), (5, .cells s.cs false), (6, .cells (says s).cs false), (7, .cells (says s).cs false)]
theorem belD_o (L : List (Nat × Sp)) (N : Nat) : (AObj.map (oV 0 L) L.length false).belD N = true := ebels_oV _ L 0
theorem belD_v (W : List (Sp × Nat)) (N : Nat) : (AObj.map (vV 0 W) W.length false).belD N = true := ebels_vV _ W 0
theorem drop39 (L : List (Nat × Sp)) (W : List (Sp × Nat)) (S : List Nat) (s : Sp) : DropM 5 (g39 L W S s) (m39 L W S) :=
 dropM_of (show (5 : Nat) ≤ 8 by decide) ⟨⟨rfl, belD_o L 5⟩, ⟨rfl, rfl⟩, ⟨rfl, belD_v W 5⟩, ⟨rfl, rfl⟩, ⟨rfl, rfl⟩, trivial⟩
theorem drop39a (L : List (Nat × Sp)) (W : List (Sp × Nat)) (S : List Nat) : DropM 5 (m39 L W S) (m39 L W S) :=
 dropM_of (show (5 : Nat) ≤ 5 by decide) ⟨⟨rfl, belD_o L 5⟩, ⟨rfl, rfl⟩, ⟨rfl, belD_v W 5⟩, ⟨rfl, rfl⟩, ⟨rfl, rfl⟩, trivial⟩
abbrev l39 (g : Int) : List (Sl × V) := [(s0, .map 0), (s2, .ptr 1 0), (s3, .int .i64 g), (s4, .ptr 3 0), (s14, .ptr 4 0)]
theorem voteL_app (l : List Sp) (s : Sp) : voteL (l ++ [s]) = addW (says s) (voteL l) := by simp only [voteL, List.foldl_append, List.foldl_cons, List.foldl_nil]
theorem maxE_app (l : List Sp) (s : Sp) : maxE (l ++ [s]) = bif decide (s.e > maxE l) then s.e else maxE l := by simp only [maxE, List.foldl_append]; rfl
theorem cnt_le (k : Sp) (l : List Sp) : cnt k l ≤ l.length := List.length_filter_le _ _
theorem loop1 {L : List (Nat × Sp)} (hl : L.length ≤ 100) : LoopOkD (callD pA tb39 la39 5) 1 c39l0 (.exit 0) (m39 L [] []) (l39 0) (fun xv => xv.Perm (oV 0 L)) (fun xv => m39 L (voteL (sps xv)) (stamps xv)) (fun xv => l39 (maxE (sps xv))) := by
 rw [c39l0_eq]
 refine rangeD (r := 4) (mb := 0) (c := L.length) (es := oV 0 L) (ro := false) (N := 5) (by decide) (stamped_oV hl) (m39 L [] []) (fun vis => m39 L (voteL (sps vis)) (stamps vis)) (fun vis e => m39 L (voteL (sps vis)) (stamps vis ++ [e.2.2])) (fun vis e => g39 L (voteL (sps (vis ++ [e]))) (stamps (vis ++ [e])) (spE e)) (fun vis => l39 (maxE (sps vis))) (drop39a L [] []) (fun _ => rfl) (fun _ => rfl) (fun _ => rfl) (fun _ _ => rfl) (fun vis e _ _ _ => drop39 _ _ _ _) (fun _ _ h => h.2.2.2.2.1) (fun _ => ⟨rfl, rfl⟩) ?_
 intro Y vis e T hv he hn hT K hK
 obtain ⟨d, s, j, rfl, hm, hj⟩ := mem_oV L 0 e he
 have hK' : ∀ T', allS T' (l39 (bif decide (s.e > maxE (sps vis)) then s.e else maxE (sps vis))) → K .normal T' (g39 L (addW (says s) (voteL (sps vis))) (stamps vis ++ [j]) s) := by
  intro T' h
  have := hK T' (by rw [sps_app, maxE_app]; exact h)
  simp only [sps_app, voteL_app, stamps_app, spE_v] at this
  exact this
 refine ct_s Y s.a s.m s.l s.n s.r s.e s.p s.x0 s.x1 s.x2 s.x3 s.c ((d : Nat) : Int) (maxE (sps vis)) _ (oV 0 L) (vV 0 (voteL (sps vis))) (vV 0 (preW (says s) (voteL (sps vis)))) (vV 0 (addW (says s) (voteL (sps vis)))) L.length j (voteL (sps vis)).length (addW (says s) (voteL (sps vis))).length (getW (says s) (voteL (sps vis))) (posW (says s) (voteL (sps vis))) (stamps vis) false (entry_ok (stamped_oV hl) he (stamps vis) false) ?_ rfl (look_vV (says s) _ 0) (ment_vV (says s) _) ?_ (esto_vV (says s) _) T hT K hK'
 ·rw [getW_vote]
  have h1 := cnt_le (says s) (sps vis)
  have h2 := hv.le
  rw [oV_length] at h2
  simp only [sps, List.length_map] at h1 ⊢
  omega
 ·have := look_vV (says s) (preW (says s) (voteL (sps vis))) 0
  rw [getW_pre] at this
  exact this
def pickF (g : Int) (w : Sp → Nat) (o s : Sp) : Sp := if s.e = g ∧ (o.e = 0 ∨ w o < w s) then s else o
def wgtL (l : List Sp) (s : Sp) : Nat := 2 * cnt (says s) l + (bif aliveB s then 0 else 1)
def pick (l : List Sp) : Sp := l.foldl (pickF (maxE l) (wgtL l)) sp0
theorem pickF_or (g : Int) (w : Sp → Nat) : ∀ (l : List Sp) (o : Sp), l.foldl (pickF g w) o = o ∨ l.foldl (pickF g w) o ∈ l
 | [], o => .inl rfl
 | s :: l, o => by
  rw [List.foldl_cons]
  rcases pickF_or g w l (pickF g w o s) with h | h
  ·rw [h]
   unfold pickF
   split
   ·exact .inr List.mem_cons_self
   ·exact .inl rfl
  ·exact .inr (List.mem_cons_of_mem _ h)
abbrev m40 (L : List (Nat × Sp)) (W : List (Sp × Nat)) (out : Sp) : Mem := memL 8 [(0, .map (oV 0 L) L.length false), (1, .cells cel0 false), (2, .map (vV 0 W) W.length false), (3, .cells [.map 2] false), (5, .cells out.cs false), (6, .cells [.map 0] false), (7, .cells (iV (sortI (keysO L))) false)]
abbrev m40a (L : List (Nat × Sp)) (W : List (Sp × Nat)) (U : List Nat) : Mem := memL 8 [(0, .map (oV 0 L) L.length false), (1, .cells cel0 false), (2, .map (vV 0 W) W.length false), (3, .cells [.map 2] false), (4, .iter (some 0) L.length U L.length), (5, .cells cel0 false), (6, .cells [.map 0] false), (7, .cells (iV (sortI (keysO L))) false)]
abbrev g40 (L : List (Nat × Sp)) (W : List (Sp × Nat)) (out s : Sp) : Mem := memL 9 [(0, .map (oV 0 L) L.length false), (1, .cells cel0 false), (2, .map (vV 0 W) W.length false), (3, .cells [.map 2] false), (5, .cells out.cs false), (6, .cells [.map 0] false), (7, .cells (iV (sortI (keysO L))) false), (8, .cells s.cs false)]
abbrev l40 (n0 : Nat) (g : Int) (i : Nat) : List (Sl × V) := [(s0, .map 0), (s2, .ptr 1 0), (s3, .int .i64 g), (s7, .func (.func 42) [] [.ptr 3 0]), (s8, .ptr 5 0), (s33, .slice 7 0 n0 n0 1), (s34, .int .i64 ((n0 : Nat) : Int)), (s35, .int .i64 ((i : Nat) : Int))]
theorem nth_get? {α : Type} : ∀ (l : List α) (i : Nat), nth l i = l[i]?
 | [], _ => rfl
 | x :: l, 0 => rfl
 | x :: l, i + 1 => by simp only [nth, List.getElem?_cons_succ]; exact nth_get? l i
theorem wf42 (s : Sp) (W : List (Sp × Nat)) (w : Nat) : Con.wf ⟨[s.v, .ptr 0 0], [.cells [.map 1] false, .map (vV 0 W) W.length false], .int .i64 ((w : Nat) : Int), [.cells [.map 1] false, .map (vV 0 W) W.length false], []⟩ = true := by
 simp only [Con.wf, bels, V.bel, Con.p0, Con.p1, List.length_cons, List.length_nil, List.all_cons, List.all_nil, AObj.bel, ebels_vV, AObj.live, Bool.and_true, nodupN, Bool.and_self]
 rfl
theorem drop40 (L : List (Nat × Sp)) (W : List (Sp × Nat)) (o s : Sp) : DropM 8 (g40 L W o s) (m40 L W o) :=
 dropM_of (show (8 : Nat) ≤ 9 by decide) ⟨⟨rfl, belD_o L 8⟩, ⟨rfl, rfl⟩, ⟨rfl, belD_v W 8⟩, ⟨rfl, rfl⟩, ⟨rfl, rfl⟩, ⟨rfl, rfl⟩, ⟨rfl, bels_iV _ _⟩, trivial⟩
theorem drop40a (L : List (Nat × Sp)) (W : List (Sp × Nat)) (U : List Nat) : DropM 8 (m40a L W U) (m40 L W sp0) :=
 dropM_of (show (8 : Nat) ≤ 8 by decide) ⟨⟨rfl, belD_o L 8⟩, ⟨rfl, rfl⟩, ⟨rfl, belD_v W 8⟩, ⟨rfl, rfl⟩, ⟨rfl, rfl⟩, ⟨rfl, rfl⟩, ⟨rfl, bels_iV _ _⟩, trivial⟩
theorem step40 {L : List (Nat × Sp)} (ok : OwnOk L) (W : List (Sp × Nat)) (hb : ∀ s, wgt W s ≤ 1000) (hk : ∀ s, getW (says s) W ≤ 100) (g : Int) (Y : Ys Prop) (i : Nat) (T : Slots) (hi : i < L.length) {d : Nat} {s : Sp} (hds : L[i]? = some (d, s)) (o : Sp) (hon : o.e ≠ 0 → o.n = 2 ∨ o.n = 3 ∨ o.n = 4)
  (hT : allS T (l40 L.length g i)) (K : Ex → Slots → Mem → Prop) (hK : ∀ T', allS T' (l40 L.length g (i + 1)) → K .normal T' (g40 L W (pickF g (wgt W) o s) s)) : code pA (callD pA tb39 la39 5) Y c39l1 T (m40 L W o) K := by
 have hm : (d, s) ∈ L := List.mem_of_getElem? hds
 have hn := ok.n _ hm
 have hD : nth (iV (sortI (keysO L))) i = some (.int .i64 ((d : Nat) : Int)) := by
  rw [sort_keys ok.inc, nth_get?, iV_get, keysO, List.getElem?_map, hds]; rfl
 have ho := lookO ok.inc (sup 0 0 0 0 0 0 0 0 0 0 0 0) hm
 by_cases he : s.e = g
 ·by_cases hz : o.e = 0
  ·rw [show pickF g (wgt W) o s = s from if_pos ⟨he, .inl hz⟩] at hK
   exact c2_b Y s.a s.m s.l s.n s.r s.e s.p s.x0 s.x1 s.x2 s.x3 s.c o.a o.m o.l o.n o.r o.e o.p o.x0 o.x1 o.x2 o.x3 o.c ((d : Nat) : Int) g (oV 0 L) (vV 0 W) L.length W.length i L.length (sortI (keysO L)) false hi ok.len hD ho he hz T hT K hK
  ·have c1 := S42.mk s W hn (hk s)
   have c2 := S42.mk o W (hon hz) (hk o)
   by_cases hlt : wgt W o < wgt W s
   ·rw [show pickF g (wgt W) o s = s from if_pos ⟨he, .inr hlt⟩] at hK
    exact c2_c Y s.a s.m s.l s.n s.r s.e s.p s.x0 s.x1 s.x2 s.x3 s.c o.a o.m o.l o.n o.r o.e o.p o.x0 o.x1 o.x2 o.x3 o.c ((d : Nat) : Int) g (oV 0 L) (vV 0 W) L.length W.length i L.length (sortI (keysO L)) false hi ok.len hD ho he hz (wgt W s) (wgt W o) (fun f => erens_vV f W 0) c1 (hb s) (wf42 s W _) c2 (hb o) (wf42 o W _) hlt T hT K hK
   ·rw [show pickF g (wgt W) o s = o from if_neg fun h => h.2.elim hz hlt] at hK
    exact c2_d Y s.a s.m s.l s.n s.r s.e s.p s.x0 s.x1 s.x2 s.x3 s.c o.a o.m o.l o.n o.r o.e o.p o.x0 o.x1 o.x2 o.x3 o.c ((d : Nat) : Int) g (oV 0 L) (vV 0 W) L.length W.length i L.length (sortI (keysO L)) false hi ok.len hD ho he hz (wgt W s) (wgt W o) (fun f => erens_vV f W 0) c1 (hb s) (wf42 s W _) c2 (hb o) (wf42 o W _) hlt T hT K hK
 ·rw [show pickF g (wgt W) o s = o from if_neg fun h => he h.1] at hK
  exact c2_a Y s.a s.m s.l s.n s.r s.e s.p s.x0 s.x1 s.x2 s.x3 s.c o.a o.m o.l o.n o.r o.e o.p o.x0 o.x1 o.x2 o.x3 o.c ((d : Nat) : Int) g (oV 0 L) (vV 0 W) L.length W.length i L.length (sortI (keysO L)) false hi ok.len hD ho he T hT K hK
theorem fin40 {L : List (Nat × Sp)} (W : List (Sp × Nat)) (g : Int) (o : Sp) (Y : Ys Prop) (T : Slots) (hT : allS T (l40 L.length g L.length)) (K : Ex → Slots → Mem → Prop) (hK : ∀ T', allS T' (l40 L.length g L.length) → K (.exit 2) T' (m40 L W o)) : code pA (callD pA tb39 la39 5) Y c39l1 T (m40 L W o) K :=
 c2_f Y o.a o.m o.l o.n o.r o.e o.p o.x0 o.x1 o.x2 o.x3 o.c g (oV 0 L) (vV 0 W) L.length W.length L.length (sortI (keysO L)) false T hT K hK
theorem loop2_39 {L : List (Nat × Sp)} (ok : OwnOk L) (W : List (Sp × Nat)) (hW : ∀ k, getW k W = cnt k (L.map (·.2))) (U : List Nat) :
  LoopOkD (callD pA tb39 la39 5) 1 c39l1 (.exit 2) (m40a L W U) (l40 L.length (maxE (L.map (·.2))) 0) (fun _ => True) (fun _ => m40 L W (pick (L.map (·.2)))) (fun _ => l40 L.length (maxE (L.map (·.2))) L.length) := by
 have hw : ∀ s, wgtL (L.map (·.2)) s = wgt W s := fun s => by simp only [wgtL, wgt, hW]
 have hw : wgtL (L.map (·.2)) = wgt W := funext hw
 have hb : ∀ s, wgt W s ≤ 1000 := fun s => by
  have h1 := cnt_le (says s) (L.map (·.2))
  have h2 := ok.len
  rw [List.length_map] at h1
  simp only [wgt, hW]
  cases aliveB s <;> simp only [cond_true, cond_false] <;> omega
 have hk : ∀ s, getW (says s) W ≤ 100 := fun s => by
  have h1 := cnt_le (says s) (L.map (·.2))
  have h2 := ok.len
  rw [List.length_map] at h1
  rw [hW]; omega
 generalize hg : maxE (L.map (·.2)) = g
 let pk : Nat → Sp := fun i => ((L.map (·.2)).take i).foldl (pickF g (wgt W)) sp0
 have p0 : pk 0 = sp0 := rfl
 have p1 : ∀ i d s, L[i]? = some (d, s) → pk (i + 1) = pickF g (wgt W) (pk i) s := by
  intro i d s h
  have hs : (L.map (·.2))[i]? = some s := by rw [List.getElem?_map, h]; rfl
  show ((L.map (·.2)).take (i + 1)).foldl (pickF g (wgt W)) sp0 = _
  rw [List.take_add_one, hs, Option.toList_some, List.foldl_append]; rfl
 have p2 : pick (L.map (·.2)) = pk L.length := by
  show _ = ((L.map (·.2)).take L.length).foldl (pickF g (wgt W)) sp0
  rw [List.take_of_length_le (by simp), pick, hg, hw]
 have p3 : ∀ i, (pk i).e ≠ 0 → (pk i).n = 2 ∨ (pk i).n = 3 ∨ (pk i).n = 4 := by
  intro i h0
  rcases pickF_or g (wgt W) ((L.map (·.2)).take i) sp0 with h | h
  ·rw [show pk i = sp0 from h] at h0; exact absurd rfl h0
  ·obtain ⟨x, hx, h2⟩ := List.mem_map.1 (List.mem_of_mem_take h)
   rw [show pk i = x.2 from h2.symm]
   exact ok.n x hx
 rw [p2]
 clear_value pk
 have h0 := drop40a L W U
 rw [← p0] at h0
 refine loopD (B := 1) (N := 8) (by decide) L.length (Nat.lt_of_le_of_lt ok.len (by decide)) (m40a L W U) (fun i => m40 L W (pk i)) (fun i => g40 L W (pk (i + 1)) (((L[i]?).getD (0, sp0)).2)) (fun i => l40 L.length g i) _ _ h0 (fun i _ => drop40 _ _ _ _) (fun _ => rfl) ?_ ?_
 ·intro Y i T hi hT K hK
  obtain ⟨d, s, hds⟩ : ∃ d s, L[i]? = some (d, s) := ⟨L[i].1, L[i].2, List.getElem?_eq_getElem hi⟩
  rw [hds, p1 i d s hds] at hK
  exact step40 ok W hb hk g Y i T hi hds (pk i) (p3 i) hT K hK
 ·intro Y T hT K hK
  exact fin40 W g (pk L.length) Y T hT K hK
theorem wf45 (L : List (Nat × Sp)) (D : List Int) (n0 c0 : Nat) : Con.wf ⟨[.func (.func 52) [] [.ptr 0 0]], [.cells [.map 1] false, .map (oV 0 L) c0 false], .slice 2 0 n0 n0 1, [.cells [.map 1] false, .map (oV 0 L) c0 false], [(2, .cells (iV D) false)]⟩ = true := by
 simp only [Con.wf, bels, V.bel, Con.p0, Con.p1, List.length_cons, List.length_nil, List.all_cons, List.all_nil, AObj.bel, ebels_oV, bels_iV, AObj.live, AObj.wr, Bool.and_true, nodupN, Bool.and_self]
 rfl
theorem counts_run (Y : Ys Prop) {L : List (Nat × Sp)} (ok : OwnOk L) : body1D (callD pA tb39 la39 5) Y c39 [.map 0] (memO [.map (oV 0 L) L.length false]) (endC ⟨[.map 0], [.map (oV 0 L) L.length false], (pick (L.map (·.2))).v, [.map (oV 0 L) L.length false], []⟩) := by
 have hperm : ∀ xv : List En, xv.Perm (oV 0 L) → (sps xv).Perm (L.map (·.2)) := fun xv h => by
  rw [← sps_oV L 0]; exact h.map spE
 have hg : ∀ xv : List En, xv.Perm (oV 0 L) → maxE (sps xv) = maxE (L.map (·.2)) := fun xv h => maxE_perm (hperm xv h)
 refine ct39 Y _ _ _ _ _ _ _ _ _ _ _ _ (oV 0 L) L.length L.length (sortI (keysO L)) (fun xv => maxE (sps xv)) (fun xv => vV 0 (voteL (sps xv))) (fun xv => (voteL (sps xv)).length) (fun xv => stamps xv) (fun xv => xv.Perm (oV 0 L)) (fun f => erens_oV f L 0) ok.len (loop1 ok.len) ?_ (S45.mk L ok.ne ok.len) (wf45 _ _ _ _)
 intro xv hx
 have h := loop2_39 ok (voteL (sps xv)) (fun k => by rw [getW_vote]; exact cnt_perm k (hperm xv hx)) (stamps xv)
 rw [← hg xv hx] at h
 exact h
end Go.Proofs.Ythmbmcpjakbepaa
