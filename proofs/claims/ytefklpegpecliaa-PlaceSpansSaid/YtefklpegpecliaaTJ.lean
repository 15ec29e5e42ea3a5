/- The functions of package place by what they answer. No condition. -/
import Derived.Test.YtefklpegpecliaaTW
import Derived.Test.YtefklpegpecliaaTAa
import Derived.Test.YtefklpegpecliaaTAb
namespace Go.Proofs.Ytefklpegpecliaa
open Go Go.AM
set_option maxRecDepth 100000
set_option maxHeartbeats 0
set_option linter.unusedVariables false
theorem ab_t {l m r s : Int} : ab l m r s = true ↔ rgP l m r ∧ 0 ≤ s ∧ s < r * (m - 1) := by rw [ab_eq, decide_eq_true_eq]
theorem ab_f {l m r s : Int} (h : ¬ (rgP l m r ∧ 0 ≤ s ∧ s < r * (m - 1))) : ab l m r s = false := by rw [ab_eq, decide_eq_false h]
theorem ro_t {l m r s : Int} : roB l m r s = true ↔ rgP l m r ∧ 0 ≤ s ∧ s < r := by rw [roB_eq, decide_eq_true_eq]
theorem ro_f {l m r s : Int} (h : ¬ (rgP l m r ∧ 0 ≤ s ∧ s < r)) : roB l m r s = false := by rw [roB_eq, decide_eq_false h]
theorem rg_t {l m r : Int} (h : rgP l m r) : rgB l m r = true := by rw [rgB_eq, decide_eq_true h]
theorem rg_f {l m r : Int} (h : ¬ rgP l m r) : rgB l m r = false := by rw [rgB_eq, decide_eq_false h]
theorem pz_1 {r x : Int} (g : rgP 1 2 r) (h0 : 0 ≤ x) (h1 : x < r) : pz 1 2 r x = 1 := by rw [pz_eq, if_pos ⟨g, h0, h1⟩, if_pos rfl]
theorem pz_5 {m r x : Int} (g : rgP 5 m r) (h0 : 0 ≤ x) (h1 : x < r) : pz 5 m r x = m - 1 - x / 2 % m := by rw [pz_eq, if_pos ⟨g, h0, h1⟩, if_neg (by decide)]
theorem size_walk (Y : Ys Prop) (l m r : Int) (K : V → Mem → Prop) (hK : ∀ mm, K (.int .i64 (sz l m r)) mm) : body1 pA (callD pA tb0 la1 5) Y c13 [geo l m r] ⟨0, .leaf⟩ K := by
  by_cases g : rgP l m r
  · have hb := rg_t g
    have hz : sz l m r = r * (m - 1) := by rw [sz_eq, if_pos g]
    obtain ⟨h1, h2, h3, h4⟩ := g
    rcases h1 with ⟨rfl, rfl⟩ | ⟨rfl, rfl | rfl⟩
    · exact size_2 Y r hb h2 h3 K fun mm => by have h := hK mm; rw [hz, show (2 : Int) - 1 = 1 from rfl] at h; exact h
    · exact size_3 Y r hb h2 h3 K fun mm => by have h := hK mm; rw [hz, show (3 : Int) - 1 = 2 from rfl] at h; exact h
    · exact size_4 Y r hb h2 h3 K fun mm => by have h := hK mm; rw [hz, show (4 : Int) - 1 = 3 from rfl] at h; exact h
  · have hz : sz l m r = 0 := by rw [sz_eq, if_neg g]
    exact size_n Y l m r (rg_f g) hz K fun mm => by have h := hK mm; rw [hz] at h; exact h
theorem row_walk (Y : Ys Prop) (l m r s : Int) (K : V → Mem → Prop) (hK : ∀ mm, K (.bool (roB l m r s)) mm) : body1 pA (callD pA tb0 la2 5) Y c22 [geo l m r, .int .i64 s] ⟨0, .leaf⟩ K := by
  by_cases g : rgP l m r
  · exact row_y Y l m r s (rg_t g) g K hK
  · exact row_n Y l m r s (rg_f g) g K hK
theorem par_walk (Y : Ys Prop) (l m r s : Int) (K : V → Mem → Prop) (hK : ∀ mm, K (.tuple [.int .i64 (pz l m r s), .bool (roB l m r s)]) mm) : body1 pA (callD pA tb0 la3 5) Y c16 [geo l m r, .int .i64 s] ⟨0, .leaf⟩ K := by
  by_cases h : rgP l m r ∧ 0 ≤ s ∧ s < r
  · have ho := ro_t.2 h
    rw [ho] at hK
    obtain ⟨g, s0, s1⟩ := h
    have g' := g
    obtain ⟨h1, h2, h3, h4⟩ := g
    rcases h1 with ⟨rfl, rfl⟩ | ⟨rfl, rfl | rfl⟩
    · exact par_2 Y r s ho s0 (by omega) K fun mm => by have h := hK mm; rw [pz_1 g' s0 s1] at h; exact h
    · exact par_3 Y r s ho s0 (by omega) K fun mm => by have h := hK mm; rw [pz_5 g' s0 s1, show (3 : Int) - 1 = 2 from rfl] at h; exact h
    · exact par_4 Y r s ho s0 (by omega) K fun mm => by have h := hK mm; rw [pz_5 g' s0 s1, show (4 : Int) - 1 = 3 from rfl] at h; exact h
  · have hz : pz l m r s = 0 := by rw [pz_eq, if_neg h]
    exact par_n Y l m r s (ro_f h) hz K fun mm => by have k := hK mm; rw [hz, ro_f h] at k; exact k
theorem at_walk (Y : Ys Prop) (l m r s : Int) (K : V → Mem → Prop) (hK : ∀ mm, K (.tuple [.int .i64 (ar l m r s), .int .i64 (am l m r s), .bool (ab l m r s)]) mm) : body1 pA (callD pA tbA la4 5) Y c12 [geo l m r, .int .i64 s] ⟨0, .leaf⟩ K := by
  by_cases h : rgP l m r ∧ 0 ≤ s ∧ s < r * (m - 1)
  · have hb := ab_t.2 h
    have hr : ar l m r s = s / 2 / (m - 1) * 2 + s % 2 := by rw [ar_eq, if_pos h]
    have hm : am l m r s = (pz l m r (s / 2 / (m - 1) * 2 + s % 2) + 1 + s / 2 % (m - 1)) % m := by rw [am_eq, if_pos h]
    rw [hb, hr, hm] at hK
    obtain ⟨g, s0, s1⟩ := h
    have hz : sz l m r = r * (m - 1) := by rw [sz_eq, if_pos g]
    have g' := g
    obtain ⟨h1, h2, h3, h4⟩ := g
    rcases h1 with ⟨rfl, rfl⟩ | ⟨rfl, rfl | rfl⟩
    · rw [show (2 : Int) - 1 = 1 from rfl] at hK s1 hz
      have q0 : 0 ≤ s / 2 / 1 * 2 + s % 2 := by omega
      have q1 : s / 2 / 1 * 2 + s % 2 < r := by omega
      have ho := ro_t.2 ⟨g', q0, q1⟩
      have hp := pz_1 g' q0 q1
      have hd : s / 2 % 1 = 0 := by omega
      rcases hd with hd
      · exact at_2_0 Y r s _ h3 s0 (by rw [hz]; exact s1) (by omega) hd rfl ho (by rw [hp]; omega) (by rw [hp]; omega) K fun mm => by have h := hK mm; rw [hd] at h; exact h
    · rw [show (3 : Int) - 1 = 2 from rfl] at hK s1 hz
      have q0 : 0 ≤ s / 2 / 2 * 2 + s % 2 := by omega
      have q1 : s / 2 / 2 * 2 + s % 2 < r := by omega
      have ho := ro_t.2 ⟨g', q0, q1⟩
      have hp := pz_5 g' q0 q1
      have hd : s / 2 % 2 = 0 ∨ s / 2 % 2 = 1 := by omega
      rcases hd with hd | hd
      · exact at_3_0 Y r s _ h3 s0 (by rw [hz]; exact s1) (by omega) hd rfl ho (by rw [hp]; omega) (by rw [hp]; omega) K fun mm => by have h := hK mm; rw [hd] at h; exact h
      · exact at_3_1 Y r s _ h3 s0 (by rw [hz]; exact s1) (by omega) hd rfl ho (by rw [hp]; omega) (by rw [hp]; omega) K fun mm => by have h := hK mm; rw [hd] at h; exact h
    · rw [show (4 : Int) - 1 = 3 from rfl] at hK s1 hz
      have q0 : 0 ≤ s / 2 / 3 * 2 + s % 2 := by omega
      have q1 : s / 2 / 3 * 2 + s % 2 < r := by omega
      have ho := ro_t.2 ⟨g', q0, q1⟩
      have hp := pz_5 g' q0 q1
      have hd : s / 2 % 3 = 0 ∨ s / 2 % 3 = 1 ∨ s / 2 % 3 = 2 := by omega
      rcases hd with hd | hd | hd
      · exact at_4_0 Y r s _ h3 s0 (by rw [hz]; exact s1) (by omega) hd rfl ho (by rw [hp]; omega) (by rw [hp]; omega) K fun mm => by have h := hK mm; rw [hd] at h; exact h
      · exact at_4_1 Y r s _ h3 s0 (by rw [hz]; exact s1) (by omega) hd rfl ho (by rw [hp]; omega) (by rw [hp]; omega) K fun mm => by have h := hK mm; rw [hd] at h; exact h
      · exact at_4_2 Y r s _ h3 s0 (by rw [hz]; exact s1) (by omega) hd rfl ho (by rw [hp]; omega) (by rw [hp]; omega) K fun mm => by have h := hK mm; rw [hd] at h; exact h
  · have hr : ar l m r s = 0 := by rw [ar_eq, if_neg h]
    have hm : am l m r s = 0 := by rw [am_eq, if_neg h]
    rw [ab_f h, hr, hm] at hK
    by_cases s0 : s < 0
    · exact at_lo Y l m r s s0 K hK
    · refine at_hi Y l m r s (by omega) ?_ K hK
      rw [sz_eq]
      split
      · rename_i g
        exact Int.not_lt.1 fun x => h ⟨g, by omega, x⟩
      · omega
section
variable {P : Program}
theorem callable_fok {f : Nat} {af : AFunc} (h : FOk P f af) : Callable P f := by
  obtain ⟨fn, h3, h4, h5⟩ := h
  exact callable_of h3 (body_of_comp h4) h5
theorem la0_ok : LastOk P la0 id := last_none (A := pA) pHolds
theorem tb0_ok : TabOk P tb0 := fun f af h => nomatch h
theorem tbA_ok (o17 : FOk P 17 c17) : TabOk P tbA := by
  intro f af h
  simp only [tbA] at h
  by_cases e : f = 17
  · subst e; cases h; exact o17
  · rw [nbeqF e] at h; cases h
variable (hmix : P.follows .mixedOrders = true)
include hmix
theorem la1_ok (o : FOk P 10 c10) : LastOk P la1 id := lastFn_ok (callable_fok o) (fun ρ args args' v hv ha => by
  unfold R10 at hv; split at hv
  · cases hv; exact answers_of_walk hmix o (callD_sound pHolds hmix tb0_ok la0_ok 5) ha rfl rfl (fun K hK => right _ _ _ _ K hK)
  · cases hv) la0_ok
theorem la2_ok (h : LastOk P la1 id) (o : FOk P 13 c13) : LastOk P la2 id := lastFn_ok (callable_fok o) (fun ρ args args' v hv ha => by
  unfold R13 at hv; split at hv
  · cases hv; exact answers_of_walk hmix o (callD_sound pHolds hmix tb0_ok h 5) ha rfl rfl (fun K hK => size_walk _ _ _ _ K hK)
  · cases hv) h
theorem la3_ok (h : LastOk P la2 id) (o : FOk P 22 c22) : LastOk P la3 id := lastFn_ok (callable_fok o) (fun ρ args args' v hv ha => by
  unfold R22 at hv; split at hv
  · cases hv; exact answers_of_walk hmix o (callD_sound pHolds hmix tb0_ok h 5) ha rfl rfl (fun K hK => row_walk _ _ _ _ _ K hK)
  · cases hv) h
theorem la4_ok (h : LastOk P la3 id) (o : FOk P 16 c16) : LastOk P la4 id := lastFn_ok (callable_fok o) (fun ρ args args' v hv ha => by
  unfold R16 at hv; split at hv
  · cases hv; exact answers_of_walk hmix o (callD_sound pHolds hmix tb0_ok h 5) ha rfl rfl (fun K hK => par_walk _ _ _ _ _ K hK)
  · cases hv) h
theorem la5a_ok (h : LastOk P la4 id) (o : FOk P 12 c12) (o17 : FOk P 17 c17) : LastOk P (lastFn 12 R12 la4) id := lastFn_ok (callable_fok o) (fun ρ args args' v hv ha => by
  unfold R12 at hv; split at hv
  · cases hv; exact answers_of_walk hmix o (callD_sound pHolds hmix (tbA_ok o17) h 5) ha rfl rfl (fun K hK => at_walk _ _ _ _ _ K hK)
  · cases hv) h
end
theorem rpar_walk (Y : Ys Prop) (l m r s : Int) (h : rgP l m r ∧ 0 ≤ s ∧ s < 64) (K : V → Mem → Prop) (hK : ∀ mm, K (.int .i64 (if l = 1 then 1 else m - 1 - s / 2 % m)) mm) : body1 pA (callD pA tb0 la0 5) Y c19 [geo l m r, .int .i64 s] ⟨0, .leaf⟩ K := by
  obtain ⟨g, s0, s1⟩ := h
  obtain ⟨h1, h2, h3, h4⟩ := g
  rcases h1 with ⟨rfl, rfl⟩ | ⟨rfl, rfl | rfl⟩
  · exact rpar_2 Y 2 r s K fun mm => by have h := hK mm; rw [if_pos rfl] at h; exact h
  · exact rpar_3 Y r s s0 s1 K fun mm => by have h := hK mm; rw [if_neg (by decide), show (3 : Int) - 1 = 2 from rfl] at h; exact h
  · exact rpar_4 Y r s s0 s1 K fun mm => by have h := hK mm; rw [if_neg (by decide), show (4 : Int) - 1 = 3 from rfl] at h; exact h
theorem all_walk (Y : Ys Prop) (l m r : Int) (h : rgP l m r) : body1 pA (callD pA tb0 la6 5) Y c15 [geo l m r] ⟨0, .leaf⟩ (endL (.new (.slice (szN m r) 2) none (.cells (cellsF l m (szN m r) 0) false))) := by
  have g := h
  obtain ⟨h1, h2, h3, h4⟩ := h
  rcases h1 with ⟨rfl, rfl⟩ | ⟨rfl, rfl | rfl⟩
  · exact all_2 Y r h2 h3 h4 fun s s0 s1 => R19_1 g s0 s1
  · exact all_3 Y r h2 h3 h4 fun s s0 s1 => R19_5 rfl g s0 s1
  · exact all_4 Y r h2 h3 h4 fun s s0 s1 => R19_5 rfl g s0 s1
theorem szN_eq {l m r : Int} (g : rgP l m r) : sz l m r = ((szN m r : Nat) : Int) ∧ szN m r ≤ 192 := by
  have hz : sz l m r = r * (m - 1) := by rw [sz_eq, if_pos g]
  obtain ⟨h1, h2, h3, h4⟩ := g
  have hp : 0 ≤ r * (m - 1) ∧ r * (m - 1) ≤ 192 := by
    rcases h1 with ⟨rfl, rfl⟩ | ⟨rfl, rfl | rfl⟩
    · rw [show (2 : Int) - 1 = 1 from rfl]; omega
    · rw [show (3 : Int) - 1 = 2 from rfl]; omega
    · rw [show (4 : Int) - 1 = 3 from rfl]; omega
  rw [hz]; unfold szN; omega
theorem at_in {l m r : Int} (g : rgP l m r) {k : Nat} (hk : k < szN m r) : ab l m r k = true ∧ ar l m r k = arF m k ∧ am l m r k = amF l m k := by
  have hz := szN_eq g
  have e : sz l m r = r * (m - 1) := by rw [sz_eq, if_pos g]
  have q : rgP l m r ∧ 0 ≤ (k : Int) ∧ (k : Int) < r * (m - 1) := ⟨g, by omega, by omega⟩
  refine ⟨ab_t.2 q, by rw [ar_eq, if_pos q]; rfl, ?_⟩
  rw [am_eq, if_pos q]
  have q2 : 0 ≤ (k : Int) / 2 / (m - 1) * 2 + (k : Int) % 2 ∧ (k : Int) / 2 / (m - 1) * 2 + (k : Int) % 2 < r := by
    obtain ⟨h1, h2, h3, h4⟩ := g
    have q3 := q.2.2
    rcases h1 with ⟨rfl, rfl⟩ | ⟨rfl, rfl | rfl⟩
    · rw [show (2 : Int) - 1 = 1 from rfl] at *; omega
    · rw [show (3 : Int) - 1 = 2 from rfl] at *; omega
    · rw [show (4 : Int) - 1 = 3 from rfl] at *; omega
  rw [pz_eq, if_pos ⟨g, q2⟩]; rfl
section
variable {P : Program}
variable (hmix : P.follows .mixedOrders = true)
include hmix
theorem la6_ok (o : FOk P 19 c19) : LastOk P la6 id := lastFn_ok (callable_fok o) (fun ρ args args' v hv ha => by
  unfold R19 at hv; split at hv
  · split at hv
    · rename_i h
      cases hv; exact answers_of_walk hmix o (callD_sound pHolds hmix tb0_ok la0_ok 5) ha rfl rfl (fun K hK => rpar_walk _ _ _ _ _ h K hK)
    · cases hv
  · cases hv) la0_ok
omit hmix in
theorem S15_plain (l m r : Int) : Lay.isPlain (.new (.slice (szN m r) 2) none (.cells (cellsF l m (szN m r) 0) false)) = true := by
  show (true && (!false && plains (cellsF l m (szN m r) 0))) = true
  rw [plains_cellsF]; rfl
theorem S15_ans (o19 : FOk P 19 c19) (o : FOk P 15 c15) {l m r : Int} (h : rgP l m r) {ρ : Ren} {args' : List Value} (ha : VRs ρ [geo l m r] args') : AnswersL P 15 args' (.new (.slice (szN m r) 2) none (.cells (cellsF l m (szN m r) 0) false)) :=
  answersL_walk hmix o (callD_sound pHolds hmix tb0_ok (la6_ok hmix o19) 5) ha rfl (S15_plain l m r) (all_walk Ys.none l m r h)
theorem S15_ok (o19 : FOk P 19 c19) (o : FOk P 15 c15) : ∀ (ρ : Ren) (args : List V) (args' : List Value) (L : Lay), S15 args = some L → VRs ρ args args' → L.isPlain = true ∧ AnswersL P 15 args' L := by
  intro ρ args args' L hS ha
  unfold S15 at hS; split at hS
  · rename_i l m r
    split at hS
    · rename_i h
      cases hS
      exact ⟨S15_plain l m r, S15_ans hmix o19 o h ha⟩
    · cases hS
  · cases hS
end
theorem at_rng {l m r : Int} (g : rgP l m r) {k : Nat} (hk : k < szN m r) : 0 ≤ ar l m r k ∧ ar l m r k < r ∧ 0 ≤ am l m r k ∧ am l m r k < m := by
  obtain ⟨x1, x2, x3⟩ := at_in g hk
  have hz := szN_eq g
  have e : sz l m r = r * (m - 1) := by rw [sz_eq, if_pos g]
  rw [x2, x3]
  unfold arF amF
  obtain ⟨h1, h2, h3, h4⟩ := g
  rcases h1 with ⟨rfl, rfl⟩ | ⟨rfl, rfl | rfl⟩
  · rw [show (2 : Int) - 1 = 1 from rfl] at *; refine ⟨by omega, by omega, Int.emod_nonneg _ (by decide), Int.emod_lt_of_pos _ (by decide)⟩
  · rw [show (3 : Int) - 1 = 2 from rfl] at *; refine ⟨by omega, by omega, Int.emod_nonneg _ (by decide), Int.emod_lt_of_pos _ (by decide)⟩
  · rw [show (4 : Int) - 1 = 3 from rfl] at *; refine ⟨by omega, by omega, Int.emod_nonneg _ (by decide), Int.emod_lt_of_pos _ (by decide)⟩

end Go.Proofs.Ytefklpegpecliaa
