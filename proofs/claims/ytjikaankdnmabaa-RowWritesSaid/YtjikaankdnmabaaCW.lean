/- No map: runs by script. No condition. -/
import Derived.Test.YtjikaankdnmabaaBW
namespace Go.Proofs.Ytjikaankdnmabaa
open Go Go.AM
set_option maxRecDepth 100000
set_option maxHeartbeats 0
set_option linter.unusedVariables false
section
variable {P : Program}
variable (hmix : P.follows .mixedOrders = true)
include hmix
theorem s14_ok (o14 : FOk P 14 c14) : ∀ C, S14 C → C.wf = true → ConOk P 14 C := by
  intro C h _
  have hcf := callD_sound (A := pA) pHolds hmix tb0_ok (la0_ok (P := P)) 5
  cases h with
  | nil => exact conOk_walk hmix o14 hcf (si0 Ys.none)
  | mk ys j hj h4 =>
    refine conOk_walk hmix o14 hcf (si Ys.none ys j h4 (loop2 j (Nat.lt_of_lt_of_le (rounds_big (by omega)) (Nat.sub_le _ _)) (fun _ => memL 2 [(0, .cells (iV ys) false), (1, .cells (iV ys) false)] ) (fun i => [(s0, .slice 0 0 j j 1), (s1, .slice 1 0 j j 1), (s4, .bool false), (s5, .int .i64 ((i : Nat) : Int))]) (fun Y i T hi hT K hK => ?_) (fun Y T hT K hK => si_f Y ys j h4 T hT K hK)))
    obtain ⟨d, hd⟩ : ∃ d, ys[i]? = some d := ⟨_, List.getElem?_eq_getElem (by omega)⟩
    exact si_s Y ys j h4 i hi d (nth_iV hd) T hT K hK
theorem s15_ok (o15 : FOk P 15 c15) : ∀ C, S15 C → C.wf = true → ConOk P 15 C := by
  intro C h _
  have hcf := callD_sound (A := pA) pHolds hmix tb0_ok (la0_ok (P := P)) 5
  cases h with
  | nil2 => exact conOk_walk hmix o15 hcf (sa_2 Ys.none)
  | nil1 c3 ro3 => exact conOk_walk hmix o15 hcf (sa_1 Ys.none c3 ro3)
  | mk G c2 ro2 W c3 ro3 hs h =>
    have H : LoopOk3 (callD pA tb0 la0 5) c15l0 (.exit 0) (memL 3 [(0, .map (mV G) c2 ro2), (1, .map (mV W) c3 ro3), (2, .iter (some 0) c2 [] c2)]) [(s1, .map 1), (s4, .bool false), (s15, .ptr 2 0)] (fun v => List.Perm v (mV G)) (fun v => memL 3 [(0, .map (mV G) c2 ro2), (1, .map (mV W) c3 ro3), (2, .iter (some 0) c2 (stamps v) c2)]) (fun v => [(s1, .map 1), (s4, .bool false), (s15, .ptr 2 0)]) := by
      rw [c15l0_eq]
      refine rangeL hs (fun vis => memL 3 [(0, .map (mV G) c2 ro2), (1, .map (mV W) c3 ro3), (2, itO 0 c2 vis)]) (fun vis y => memL 3 [(0, .map (mV G) c2 ro2), (1, .map (mV W) c3 ro3), (2, itO1 0 c2 vis y.2.2)]) (fun _ => [(s1, .map 1), (s4, .bool false), (s15, .ptr 2 0)]) (fun _ => rfl) (fun _ => rfl) (fun _ _ => rfl) (fun _ _ hT => hT.2.2.1) (fun _ => ⟨rfl, rfl⟩) (fun Y vis y T _ hy _ hT K hK => ?_)
      obtain ⟨z, hz, rfl⟩ := mV_mem hy
      have hl := look_G2 W z.1
      rw [(h.2 z hz).1, (h.2 z hz).2] at hl
      refine sa_s Y G c2 ro2 W c3 ro3 z.2.2 (stamps vis) z.1 z.2.1 (entry_ok hs hy _ _) hl (beqL_self _) T hT K fun T' hT' => ?_
      have := hK T' hT'
      rw [show itO 0 c2 (vis ++ [(V.int .i64 z.1, V.str z.2.1, z.2.2)]) = .iter (some 0) c2 (stamps vis ++ [z.2.2]) c2 by unfold itO; rw [stamps_app]] at this
      exact this
    exact conOk_walk hmix o15 hcf (sa Ys.none G c2 ro2 W c3 ro3 (by rw [mV_length, mV_length]; exact h.1) H)
end
section
variable {P : Program}
variable (hmix : P.follows .mixedOrders = true)
include hmix
omit hmix in
theorem par5_walk (Y : Ys Prop) (m r s : Int) (z0 : 0 ≤ s) (z1 : s < 64) (hm : m = 3 ∨ m = 4) (K : V → Mem → Prop) (hK : ∀ mm, K (.int .i64 (m - 1 - s / 2 % m)) mm) : body1 pA (callD pA tb0 la0 5) Y c40 [geo 5 m r, .int .i64 s] ⟨0, .leaf⟩ K := by
  obtain ⟨j, hj⟩ := Int.eq_ofNat_of_zero_le (show (0 : Int) ≤ s / 2 by omega)
  refine qpar_5 Y m r s (m - 1 - ((j : Nat) : Int) % m) (m - 1 - ((0 : Nat) : Int) % m) (by omega) (by omega) (by rcases hm with rfl | rfl <;> rfl) j (loop2 j (Nat.lt_of_lt_of_le (rounds_big (by omega)) (Nat.sub_le _ _)) (fun _ => memL 1 [(0, .cells [.int .i64 5, .int .i64 m, .int .i64 r] false)]) (fun i => [(s1, .int .i64 s), (s2, .ptr 0 0), (s5, .int .i64 (m - 1 - ((i : Nat) : Int) % m)), (s6, .int .i64 ((i : Nat) : Int))]) (fun Y i T hi hT K hK => ?_) (fun Y T hT K hK => ?_)) K (by rw [← hj]; exact hK)
  · by_cases hz : ((i : Nat) : Int) % m = m - 1
    · exact qp_w Y m r s _ z0 z1 (by omega) (by rcases hm with rfl | rfl <;> omega) i (by omega) (by omega) (by rcases hm with rfl | rfl <;> omega) (m - 1 - ((i + 1 : Nat) : Int) % m) (by rcases hm with rfl | rfl <;> omega) T hT K hK
    · exact qp_s Y m r s _ z0 z1 (by omega) (by rcases hm with rfl | rfl <;> omega) i (by omega) (by rcases hm with rfl | rfl <;> omega) (m - 1 - ((i + 1 : Nat) : Int) % m) (by rcases hm with rfl | rfl <;> omega) T hT K hK
  · exact qp_e Y m r s _ z0 z1 (by omega) (by rcases hm with rfl | rfl <;> omega) j (by omega) T hT K hK
omit hmix in
theorem par40_walk (Y : Ys Prop) (l m r s : Int) (o : roB l m r s = true) (K : V → Mem → Prop) (hK : ∀ mm, K (.int .i64 (pz l m r s)) mm) : body1 pA (callD pA tb0 la0 5) Y c40 [geo l m r, .int .i64 s] ⟨0, .leaf⟩ K := by
  obtain ⟨g, s0, s1⟩ := ro_t.1 o
  have g' := g
  obtain ⟨h1, h2, h3, h4⟩ := g
  rcases h1 with ⟨rfl, rfl⟩ | ⟨rfl, rfl | rfl⟩
  · exact qpar_2 Y 2 r s K fun mm => by have h := hK mm; rw [pz_1 g' s0 s1] at h; exact h
  · exact par5_walk Y 3 r s s0 (by omega) (.inl rfl) K fun mm => by have h := hK mm; rw [pz_5 g' s0 s1] at h; exact h
  · exact par5_walk Y 4 r s s0 (by omega) (.inr rfl) K fun mm => by have h := hK mm; rw [pz_5 g' s0 s1] at h; exact h
theorem l40_ok (o40 : FOk P 40 c40) {last : CF Prop} (hl : LastOk P last id) : LastOk P (lastFn 40 R40 last) id := lastFn_ok (callable_fok o40) (fun ρ args args' v hv ha => by
  unfold R40 at hv; split at hv
  · split at hv
    · rename_i ho
      cases hv; exact answers_of_walk hmix o40 (callD_sound pHolds hmix tb0_ok la0_ok 5) ha rfl rfl (fun K hK => par40_walk _ _ _ _ _ ho K hK)
    · cases hv
  · cases hv) hl
theorem la11_ok (l57 : LastOk P la57 id) (o39 : FOk P 39 c39) (o40 : FOk P 40 c40) : LastOk P la11 id :=
  lastFn_ok (callable_fok o39) (fun ρ args args' v hv ha => by
    unfold R30 at hv; split at hv
    · cases hv; exact answers_of_walk hmix o39 (callD_sound pHolds hmix tb0_ok l57 5) ha rfl rfl (fun K hK => may39_walk _ _ _ _ _ _ _ _ _ K hK)
    · cases hv) (l40_ok hmix o40 la0_ok)
end
noncomputable abbrev nn_e_Qa (l m r s : Int) (b0 b1 b2 b3 : Bool) (e : Int) : Con := ⟨[geo l m r, .int .i64 s, ag b0 b1 b2 b3, .nilmap], [], .tuple [.nilslice, .int .i64 e], [], []⟩
theorem nn_e_o0 (e : Int) (he : e ≠ (0 : Int)) : ¬e = (0 : Int) := by omega
theorem nn_e (Y : Ys Prop) (l m r s : Int) (b0 b1 b2 b3 : Bool) (e : Int) (he : e ≠ 0) (h : mayE l m r s b0 b1 b2 b3 = e) :
   body1 pA (callD pA tb10 la10 5) Y c10 (nn_e_Qa l m r s b0 b1 b2 b3 e).args (memO (nn_e_Qa l m r s b0 b1 b2 b3 e).pre) (endC (nn_e_Qa l m r s b0 b1 b2 b3 e)) :=
  walkC_of_vc (C := (nn_e_Qa l m r s b0 b1 b2 b3 e)) (mono10) (.wait 8 (.fix s20 (vi e) (.wait 3 (.fix s22 (vb true) .nil))))
  (show (vi (mayE l m r s b0 b1 b2 b3) = vi e ∧ vb (nB (eqI e 0)) = vb true ∧ rR (V.tuple [V.nilslice, vi e]) ∧ True ∧ True) from
  ⟨(ci h), cb (congrArg Bool.not (eqF rfl rfl (nn_e_o0 e he))), (by rfl), trivial, trivial⟩)
  (by kernel_rfl) Y
noncomputable abbrev nn_1_Qa (l m r s : Int) (b0 b1 b2 b3 : Bool) : Con := ⟨[geo l m r, .int .i64 s, ag b0 b1 b2 b3, .nilmap], [], .tuple [.nilslice, .int .i64 1], [], []⟩
theorem nn_1 (Y : Ys Prop) (l m r s : Int) (b0 b1 b2 b3 : Bool) (k : Nat) (zs : List Int) (hm : mayE l m r s b0 b1 b2 b3 = 0) (h16 : S16s [geo l m r, .int .i64 s] = some (Lay.new (Hd.slice k 1) none (AObj.cells (iV zs) false))) :
   body1 pA (callD pA tb10 la10 5) Y c10 (nn_1_Qa l m r s b0 b1 b2 b3).args (memO (nn_1_Qa l m r s b0 b1 b2 b3).pre) (endC (nn_1_Qa l m r s b0 b1 b2 b3)) :=
  walkC_of_vc (C := (nn_1_Qa l m r s b0 b1 b2 b3)) (mono10) (.wait 8 (.fix s20 (vi 0) (.wait 6 (.lay (Lay.new (Hd.slice k 1) none (oC (iV zs) false)) .nil))))
  (show (vi (mayE l m r s b0 b1 b2 b3) = vi 0 ∧ (∀ (m' : Mem) (K' : V → Mem → Prop), la10 (.func (.func 16) [] []) ([geo l m r, vi s]) m' K' = Lay.go (Lay.new (Hd.slice k 1) none (oC (iV zs) false)) m' K') ∧ (V.tuple [V.nilslice, vi (Int.ofNat 1)] = V.tuple [V.nilslice, vi 1] ∧ True ∧ True)) from
  ⟨(ci hm), fun m' K' => layE h16, ⟨(by rfl), trivial, trivial⟩⟩)
  (by kernel_rfl) Y
theorem qnn_e (Y : Ys Prop) (l m r s : Int) (b0 b1 b2 b3 : Bool) (e : Int) (he : e ≠ 0) (h : mayE l m r s b0 b1 b2 b3 = e) :
   body1 pA (callD pA tb0 la11 5) Y c11 (nn_e_Qa l m r s b0 b1 b2 b3 e).args (memO (nn_e_Qa l m r s b0 b1 b2 b3 e).pre) (endC (nn_e_Qa l m r s b0 b1 b2 b3 e)) :=
  walkC_of_vc (C := (nn_e_Qa l m r s b0 b1 b2 b3 e)) (mono11) (.wait 8 (.fix s23 (vi e) (.wait 3 (.fix s25 (vb true) .nil))))
  (show (vi (mayE l m r s b0 b1 b2 b3) = vi e ∧ vb (nB (eqI e 0)) = vb true ∧ rR (V.tuple [V.nilslice, vi e]) ∧ True ∧ True) from
  ⟨(ci h), cb (congrArg Bool.not (eqF rfl rfl (nn_e_o0 e he))), (by rfl), trivial, trivial⟩)
  (by kernel_rfl) Y
theorem qnn_1 (Y : Ys Prop) (l m r s : Int) (b0 b1 b2 b3 : Bool) (hm : mayE l m r s b0 b1 b2 b3 = 0) (p : Nat) (p4 : p < 4) (h40 : R40 [geo l m r, .int .i64 s] = some (.int .i64 ((p : Nat) : Int))) :
   body1 pA (callD pA tb0 la11 5) Y c11 (nn_1_Qa l m r s b0 b1 b2 b3).args (memO (nn_1_Qa l m r s b0 b1 b2 b3).pre) (endC (nn_1_Qa l m r s b0 b1 b2 b3)) :=
  walkC_of_vc (C := (nn_1_Qa l m r s b0 b1 b2 b3)) (mono11) (.wait 8 (.fix s23 (vi 0) (.wait 6 (.lay (Lay.plain (vi ↑p)) .nil))))
  (show (vi (mayE l m r s b0 b1 b2 b3) = vi 0 ∧ (∀ (m' : Mem) (K' : V → Mem → Prop), la11 (.func (.func 40) [] []) ([geo l m r, vi s]) m' K' = Lay.go (Lay.plain (vi ↑p)) m' K') ∧ (V.tuple [V.nilslice, vi (Int.ofNat 1)] = V.tuple [V.nilslice, vi 1] ∧ True ∧ True)) from
  ⟨(ci hm), fun m' K' => fnE h40, ⟨(by rfl), trivial, trivial⟩⟩)
  (by kernel_rfl) Y
end Go.Proofs.Ytjikaankdnmabaa
