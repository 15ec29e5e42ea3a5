/- The contracts hold. No condition. -/
import Derived.Test.YthmbmcpjakbepaaID
namespace Go.Proofs.Ythmbmcpjakbepaa
open Go Go.AM
set_option maxRecDepth 100000
set_option maxHeartbeats 4000000
set_option linter.unusedVariables false
set_option linter.unusedSectionVars false
theorem wt_run (Y : Ys Prop) (s : Sp) (W : List (Sp × Nat)) (hn : s.n = 2 ∨ s.n = 3 ∨ s.n = 4) (hk : getW (says s) W ≤ 100) : body1 pA (callD pA tbW la0 6) Y c42 [s.v, .ptr 0 0] (memO [.cells [.map 1] false, .map (vV 0 W) W.length false]) (endC ⟨[s.v, .ptr 0 0], [.cells [.map 1] false, .map (vV 0 W) W.length false], .int .i64 ((wgt W s : Nat) : Int), [.cells [.map 1] false, .map (vV 0 W) W.length false], []⟩) := by
 have h := look_vV (says s) W 0
 obtain ⟨a, m, l, n, r, e, p, x0, x1, x2, x3, c⟩ := s
 simp only at hn hk h
 rcases hn with rfl | rfl | rfl
 ·skip
  by_cases u0 : x0 = 1
  case neg =>
   rw [show wgt W ⟨a, m, l, 2, r, e, p, x0, x1, x2, x3, c⟩ = (2 * getW (says ⟨a, m, l, 2, r, e, p, x0, x1, x2, x3, c⟩) W + 1) from by simp [wgt, aliveB, u0]]
   exact wt_2_0 Y a m l r e p x0 x1 x2 x3 c (vV 0 W) W.length _ hk h u0
  by_cases u1 : x1 = 1
  case neg =>
   rw [show wgt W ⟨a, m, l, 2, r, e, p, x0, x1, x2, x3, c⟩ = (2 * getW (says ⟨a, m, l, 2, r, e, p, x0, x1, x2, x3, c⟩) W + 1) from by simp [wgt, aliveB, u0, u1]]
   exact wt_2_1 Y a m l r e p x0 x1 x2 x3 c (vV 0 W) W.length _ hk h u0 u1
  rw [show wgt W ⟨a, m, l, 2, r, e, p, x0, x1, x2, x3, c⟩ = (2 * getW (says ⟨a, m, l, 2, r, e, p, x0, x1, x2, x3, c⟩) W) from by simp [wgt, aliveB, u0, u1]]
  exact wt_2_2 Y a m l r e p x0 x1 x2 x3 c (vV 0 W) W.length _ hk h u0 u1
 ·skip
  by_cases u0 : x0 = 1
  case neg =>
   rw [show wgt W ⟨a, m, l, 3, r, e, p, x0, x1, x2, x3, c⟩ = (2 * getW (says ⟨a, m, l, 3, r, e, p, x0, x1, x2, x3, c⟩) W + 1) from by simp [wgt, aliveB, u0]]
   exact wt_3_0 Y a m l r e p x0 x1 x2 x3 c (vV 0 W) W.length _ hk h u0
  by_cases u1 : x1 = 1
  case neg =>
   rw [show wgt W ⟨a, m, l, 3, r, e, p, x0, x1, x2, x3, c⟩ = (2 * getW (says ⟨a, m, l, 3, r, e, p, x0, x1, x2, x3, c⟩) W + 1) from by simp [wgt, aliveB, u0, u1]]
   exact wt_3_1 Y a m l r e p x0 x1 x2 x3 c (vV 0 W) W.length _ hk h u0 u1
  by_cases u2 : x2 = 1
  case neg =>
   rw [show wgt W ⟨a, m, l, 3, r, e, p, x0, x1, x2, x3, c⟩ = (2 * getW (says ⟨a, m, l, 3, r, e, p, x0, x1, x2, x3, c⟩) W + 1) from by simp [wgt, aliveB, u0, u1, u2]]
   exact wt_3_2 Y a m l r e p x0 x1 x2 x3 c (vV 0 W) W.length _ hk h u0 u1 u2
  rw [show wgt W ⟨a, m, l, 3, r, e, p, x0, x1, x2, x3, c⟩ = (2 * getW (says ⟨a, m, l, 3, r, e, p, x0, x1, x2, x3, c⟩) W) from by simp [wgt, aliveB, u0, u1, u2]]
  exact wt_3_3 Y a m l r e p x0 x1 x2 x3 c (vV 0 W) W.length _ hk h u0 u1 u2
 ·skip
  by_cases u0 : x0 = 1
  case neg =>
   rw [show wgt W ⟨a, m, l, 4, r, e, p, x0, x1, x2, x3, c⟩ = (2 * getW (says ⟨a, m, l, 4, r, e, p, x0, x1, x2, x3, c⟩) W + 1) from by simp [wgt, aliveB, u0]]
   exact wt_4_0 Y a m l r e p x0 x1 x2 x3 c (vV 0 W) W.length _ hk h u0
  by_cases u1 : x1 = 1
  case neg =>
   rw [show wgt W ⟨a, m, l, 4, r, e, p, x0, x1, x2, x3, c⟩ = (2 * getW (says ⟨a, m, l, 4, r, e, p, x0, x1, x2, x3, c⟩) W + 1) from by simp [wgt, aliveB, u0, u1]]
   exact wt_4_1 Y a m l r e p x0 x1 x2 x3 c (vV 0 W) W.length _ hk h u0 u1
  by_cases u2 : x2 = 1
  case neg =>
   rw [show wgt W ⟨a, m, l, 4, r, e, p, x0, x1, x2, x3, c⟩ = (2 * getW (says ⟨a, m, l, 4, r, e, p, x0, x1, x2, x3, c⟩) W + 1) from by simp [wgt, aliveB, u0, u1, u2]]
   exact wt_4_2 Y a m l r e p x0 x1 x2 x3 c (vV 0 W) W.length _ hk h u0 u1 u2
  by_cases u3 : x3 = 1
  case neg =>
   rw [show wgt W ⟨a, m, l, 4, r, e, p, x0, x1, x2, x3, c⟩ = (2 * getW (says ⟨a, m, l, 4, r, e, p, x0, x1, x2, x3, c⟩) W + 1) from by simp [wgt, aliveB, u0, u1, u2, u3]]
   exact wt_4_3 Y a m l r e p x0 x1 x2 x3 c (vV 0 W) W.length _ hk h u0 u1 u2 u3
  rw [show wgt W ⟨a, m, l, 4, r, e, p, x0, x1, x2, x3, c⟩ = (2 * getW (says ⟨a, m, l, 4, r, e, p, x0, x1, x2, x3, c⟩) W) from by simp [wgt, aliveB, u0, u1, u2, u3]]
  exact wt_4_4 Y a m l r e p x0 x1 x2 x3 c (vV 0 W) W.length _ hk h u0 u1 u2 u3
theorem plains_iV : ∀ l : List Int, plains (iV l) = true
 | [] => rfl
 | x :: l => by
  have := plains_iV l
  simp only [iV, List.map_cons] at *
  simp only [plains, V.plain, this, Bool.and_self]
abbrev tb45 : Nat → Option AFunc := fun f => bif Nat.beq f 50 then some c50 else bif Nat.beq f 52 then some c52 else bif Nat.beq f 53 then some c53 else none
abbrev la45 : CF Prop := lastC 51 SortS la0
theorem sort_run (Y : Ys Prop) {L : List (Nat × Sp)} (hL : L ≠ []) (hl : L.length ≤ 100) : body1 pA (callD pA tb45 la45 6) Y c45 [.func (.func 52) [] [.ptr 0 0]] (memO [.cells [.map 1] false, .map (oV 0 L) L.length false]) fun u m => ∃ b, 2 ≤ b ∧ u = .slice b 0 L.length L.length 1 ∧ m.get b = some (.cells (iV (sortI (keysO L))) false) ∧ ∀ (c : Nat) (o : AObj), [AObj.cells [.map 1] false, .map (oV 0 L) L.length false][c]? = some o → m.get c = some o := by
 have hk : IntKeys (oV 0 L) := fun e he => by
  obtain ⟨d, s, j, rfl, _, _⟩ := mem_oV L 0 e he
  rfl
 refine sorted_run (f := 50) (a := 53) (g := 52) (h := 51) (d := 2) (mb := 1) (bx := 0) (c := L.length) (es := oV 0 L) (ro := false) (ro2 := false) rfl rfl rfl rfl (fun e => hL (List.length_eq_zero_iff.1 (by rw [← oV_length L 0, e]; rfl))) (stamped_oV hl) hk (by rw [oV_length]; omega) (show (1 : Nat) < 2 by decide) (show (0 : Nat) < 2 by decide) rfl rfl fun m b h1 h2 h3 h4 => ?_
 rw [oV_length]
 rw [keyI_oV] at h4
 refine ⟨b, h1, rfl, h4, fun c o h => ?_⟩
 have hc := (List.getElem?_eq_some_iff.1 h).1
 rw [h3 c hc, memO_get]; exact h
section
variable {P : Program}
theorem tbW_ok (o41 : FOk P 41 c41) (o43 : FOk P 43 c43) (o44 : FOk P 44 c44) (o49 : FOk P 49 c49) : TabOk P tbW := by
 intro f af h
 simp only [tbW] at h
 by_cases e41 : f = 41
 ·subst e41; cases h; exact o41
 ·rw [nbeqF e41, cond_false] at h
  by_cases e43 : f = 43
  ·subst e43; cases h; exact o43
  ·rw [nbeqF e43, cond_false] at h
   by_cases e44 : f = 44
   ·subst e44; cases h; exact o44
   ·rw [nbeqF e44, cond_false] at h
    by_cases e49 : f = 49
    ·subst e49; cases h; exact o49
    ·rw [nbeqF e49] at h; cases h
theorem tb39_ok (o41 : FOk P 41 c41) (o46 : FOk P 46 c46) : TabOk P tb39 := by
 intro f af h
 simp only [tb39] at h
 by_cases e41 : f = 41
 ·subst e41; cases h; exact o41
 ·rw [nbeqF e41, cond_false] at h
  by_cases e46 : f = 46
  ·subst e46; cases h; exact o46
  ·rw [nbeqF e46] at h; cases h
theorem tb45_ok (o50 : FOk P 50 c50) (o52 : FOk P 52 c52) (o53 : FOk P 53 c53) : TabOk P tb45 := by
 intro f af h
 simp only [tb45] at h
 by_cases e50 : f = 50
 ·subst e50; cases h; exact o50
 ·rw [nbeqF e50, cond_false] at h
  by_cases e52 : f = 52
  ·subst e52; cases h; exact o52
  ·rw [nbeqF e52, cond_false] at h
   by_cases e53 : f = 53
   ·subst e53; cases h; exact o53
   ·rw [nbeqF e53] at h; cases h
theorem tb23_ok : TabOk P tb23 := fun f af h => nomatch h
open Go.Sort in
theorem sS_ok (hC : ∀ (blk off cap : Nat) (zs : List Int) (w : World), Go.Sort.Holds (Value.int .i64) w blk off zs.toArray → blk < w.heap.size → zs.length < 4611686018427387904 →
  Calls P 51 #[.slice (some ⟨blk, off, none⟩) zs.length cap] w fun e w' => e = .returned (.tuple #[]) ∧ ∃ n os, w' = grow (putRow (Value.int .i64) (Sort.ahead w n) blk off (zs.mergeSort fun x y => decide (x ≤ y)).toArray) os) :
  ∀ C, SortS C → C.wf = true → ConOk P 51 C := by
 intro C h _
 cases h with | mk zs h hl =>
 exact conRow h (by rw [sortI, List.length_mergeSort]) (ansv := fun _ _ _ => .tuple #[]) (fun _ _ _ _ _ _ _ _ => .tuple .nil) (fun blk off cap w hH hb _ => hC blk off cap zs w hH hb hl)
variable (hmix : P.follows .mixedOrders = true)
include hmix
theorem s42_ok (o41 : FOk P 41 c41) (o42 : FOk P 42 c42) (o43 : FOk P 43 c43) (o44 : FOk P 44 c44) (o49 : FOk P 49 c49) : ∀ C, S42 C → C.wf = true → ConOk P 42 C := by
 intro C h _
 cases h with | mk s W hn hk =>
 exact conOk_walk hmix o42 (callD_sound pHolds hmix (tbW_ok o41 o43 o44 o49) la0_ok 6) (wt_run _ s W hn hk)
theorem s45_ok (c51 : Callable P 51) (h51 : ∀ C, SortS C → C.wf = true → ConOk P 51 C) (o45 : FOk P 45 c45) (o50 : FOk P 50 c50) (o52 : FOk P 52 c52) (o53 : FOk P 53 c53) : ∀ C, S45 C → C.wf = true → ConOk P 45 C := by
 intro C h _
 cases h with | mk L hL hl =>
 refine conOk_slice hmix o45 (callD_sound pHolds hmix (tb45_ok o50 o52 o53) (lastC_ok c51 h51 la0_ok) 6) ?_ ?_ (sort_run _ hL hl)
 ·exact plains_iV _
 ·intro o ho
  simp only [List.mem_cons, List.not_mem_nil, or_false] at ho
  rcases ho with rfl | rfl
  ·rfl
  ·exact belD_o L 2
omit hmix in
theorem la39_ok (h42 : ∀ C, S42 C → C.wf = true → ConOk P 42 C) (h45 : ∀ C, S45 C → C.wf = true → ConOk P 45 C) (c42 : Callable P 42) (c45 : Callable P 45) : LastOk P la39 id := lastCl_ok c42 h42 (lastC_ok c45 h45 la0_ok)
theorem s39_ok (h : LastOk P la39 id) (o39 : FOk P 39 c39) (o41 : FOk P 41 c41) (o46 : FOk P 46 c46) : ∀ C, S39 C → C.wf = true → ConOk P 39 C := by
 intro C h2 _
 cases h2 with | mk L ok =>
 exact conOk_walkD hmix o39 (callD_sound pHolds hmix (tb39_ok o41 o46) h 5) (counts_run _ ok)
theorem s23_ok (h20 : LastOk P (lastFn 20 ofRs la0) id) (c39 : Callable P 39) (h39 : ∀ C, S39 C → C.wf = true → ConOk P 39 C) (o23 : FOk P 23 c23) : ∀ C, S23 C → C.wf = true → ConOk P 23 C := by
 intro C h _
 cases h with | mk D X n k q ok =>
 exact conOk_walkD hmix o23 (callD_sound pHolds hmix tb23_ok (lastC_ok c39 h39 h20) 5) (make_run _ ok k q)
theorem of20_ok (h6 : LastOk P la6 id) (o20 : FOk P 20 c20) : LastOk P (lastFn 20 ofRs la0) id := lastFn_ok (callable_fok o20) (fun ρ args args' v hv ha => by
  rw [ofRs_eq] at hv
  unfold ofR at hv; split at hv
  ·cases hv; exact answers_of_walk hmix o20 (callD_sound pHolds hmix tb0_ok h6 5) ha rfl rfl (fun K hK => sof_r _ _ _ K hK)
  ·cases hv) la0_ok
end
end Go.Proofs.Ythmbmcpjakbepaa
