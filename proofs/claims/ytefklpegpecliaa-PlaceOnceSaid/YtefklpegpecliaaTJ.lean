/- The functions of package place by what they answer, and the law by its cases. No condition. -/
import Derived.Test.YtefklpegpecliaaTW
import Derived.Test.YtefklpegpecliaaTL
namespace Go.Proofs.Ytefklpegpecliaa
open Go Go.AM
set_option maxRecDepth 100000
set_option maxHeartbeats 0
set_option linter.unusedVariables false
theorem ab_t {l m r s : Int} : ab l m r s = true ↔ rgP l m r ∧ 0 ≤ s ∧ s < r * (m - 1) := by rw [ab_eq, decide_eq_true_eq]
theorem ab_f {l m r s : Int} (h : ¬ (rgP l m r ∧ 0 ≤ s ∧ s < r * (m - 1))) : ab l m r s = false := by rw [ab_eq, decide_eq_false h]
theorem ro_t {l m r s : Int} : roB l m r s = true ↔ rgP l m r ∧ 0 ≤ s ∧ s < r := by rw [roB_eq, decide_eq_true_eq]
theorem ro_f {l m r s : Int} (h : ¬ (rgP l m r ∧ 0 ≤ s ∧ s < r)) : roB l m r s = false := by rw [roB_eq, decide_eq_false h]
theorem rg_t {l m r : Int} (h : rgP l m r) : rgB l m r = true := by rw [rgB_eq, decide_eq_true h]
theorem rg_f {l m r : Int} (h : ¬ rgP l m r) : rgB l m r = false := by rw [rgB_eq, decide_eq_false h]
theorem pz_1 {r x : Int} (g : rgP 1 2 r) (h0 : 0 ≤ x) (h1 : x < r) : pz 1 2 r x = 1 := by rw [pz_eq, if_pos ⟨g, h0, h1⟩, if_pos rfl]
theorem pz_5 {m r x : Int} (g : rgP 5 m r) (h0 : 0 ≤ x) (h1 : x < r) : pz 5 m r x = m - 1 - x / 2 % m := by rw [pz_eq, if_pos ⟨g, h0, h1⟩, if_neg (by decide)]
theorem size_walk (Y : Ys Prop) (l m r : Int) (K : V → Mem → Prop) (hK : ∀ mm, K (.int .i64 (sz l m r)) mm) : body1 pA (callD pA tb0 la1 5) Y c13 [geo l m r] ⟨0, .leaf⟩ K := by
  by_cases g : rgP l m r
  · have hb := rg_t g
    have hz : sz l m r = r * (m - 1) := by rw [sz_eq, if_pos g]
    obtain ⟨h1, h2, h3, h4⟩ := g
    rcases h1 with ⟨rfl, rfl⟩ | ⟨rfl, rfl | rfl⟩
    · exact size_2 Y r hb h2 h3 K fun mm => by have h := hK mm; rw [hz, show (2 : Int) - 1 = 1 from rfl] at h; exact h
    · exact size_3 Y r hb h2 h3 K fun mm => by have h := hK mm; rw [hz, show (3 : Int) - 1 = 2 from rfl] at h; exact h
    · exact size_4 Y r hb h2 h3 K fun mm => by have h := hK mm; rw [hz, show (4 : Int) - 1 = 3 from rfl] at h; exact h
  · have hz : sz l m r = 0 := by rw [sz_eq, if_neg g]
    exact size_n Y l m r (rg_f g) hz K fun mm => by have h := hK mm; rw [hz] at h; exact h
theorem row_walk (Y : Ys Prop) (l m r s : Int) (K : V → Mem → Prop) (hK : ∀ mm, K (.bool (roB l m r s)) mm) : body1 pA (callD pA tb0 la2 5) Y c22 [geo l m r, .int .i64 s] ⟨0, .leaf⟩ K := by
  by_cases g : rgP l m r
  · exact row_y Y l m r s (rg_t g) g K hK
  · exact row_n Y l m r s (rg_f g) g K hK
theorem par_walk (Y : Ys Prop) (l m r s : Int) (K : V → Mem → Prop) (hK : ∀ mm, K (.tuple [.int .i64 (pz l m r s), .bool (roB l m r s)]) mm) : body1 pA (callD pA tb0 la3 5) Y c16 [geo l m r, .int .i64 s] ⟨0, .leaf⟩ K := by
  by_cases h : rgP l m r ∧ 0 ≤ s ∧ s < r
  · have ho := ro_t.2 h
    rw [ho] at hK
    obtain ⟨g, s0, s1⟩ := h
    have g' := g
    obtain ⟨h1, h2, h3, h4⟩ := g
    rcases h1 with ⟨rfl, rfl⟩ | ⟨rfl, rfl | rfl⟩
    · exact par_2 Y r s ho s0 (by omega) K fun mm => by have h := hK mm; rw [pz_1 g' s0 s1] at h; exact h
    · exact par_3 Y r s ho s0 (by omega) K fun mm => by have h := hK mm; rw [pz_5 g' s0 s1, show (3 : Int) - 1 = 2 from rfl] at h; exact h
    · exact par_4 Y r s ho s0 (by omega) K fun mm => by have h := hK mm; rw [pz_5 g' s0 s1, show (4 : Int) - 1 = 3 from rfl] at h; exact h
  · have hz : pz l m r s = 0 := by rw [pz_eq, if_neg h]
    exact par_n Y l m r s (ro_f h) hz K fun mm => by have k := hK mm; rw [hz, ro_f h] at k; exact k
theorem at_walk (Y : Ys Prop) (l m r s : Int) (K : V → Mem → Prop) (hK : ∀ mm, K (.tuple [.int .i64 (ar l m r s), .int .i64 (am l m r s), .bool (ab l m r s)]) mm) : body1 pA (callD pA tbA la4 5) Y c12 [geo l m r, .int .i64 s] ⟨0, .leaf⟩ K := by
  by_cases h : rgP l m r ∧ 0 ≤ s ∧ s < r * (m - 1)
  · have hb := ab_t.2 h
    have hr : ar l m r s = s / 2 / (m - 1) * 2 + s % 2 := by rw [ar_eq, if_pos h]
    have hm : am l m r s = (pz l m r (s / 2 / (m - 1) * 2 + s % 2) + 1 + s / 2 % (m - 1)) % m := by rw [am_eq, if_pos h]
    rw [hb, hr, hm] at hK
    obtain ⟨g, s0, s1⟩ := h
    have hz : sz l m r = r * (m - 1) := by rw [sz_eq, if_pos g]
    have g' := g
    obtain ⟨h1, h2, h3, h4⟩ := g
    rcases h1 with ⟨rfl, rfl⟩ | ⟨rfl, rfl | rfl⟩
    · rw [show (2 : Int) - 1 = 1 from rfl] at hK s1 hz
      have q0 : 0 ≤ s / 2 / 1 * 2 + s % 2 := by omega
      have q1 : s / 2 / 1 * 2 + s % 2 < r := by omega
      have ho := ro_t.2 ⟨g', q0, q1⟩
      have hp := pz_1 g' q0 q1
      have hd : s / 2 % 1 = 0 := by omega
      rcases hd with hd
      · exact at_2_0 Y r s _ h3 s0 (by rw [hz]; exact s1) (by omega) hd rfl ho (by rw [hp]; omega) (by rw [hp]; omega) K fun mm => by have h := hK mm; rw [hd] at h; exact h
    · rw [show (3 : Int) - 1 = 2 from rfl] at hK s1 hz
      have q0 : 0 ≤ s / 2 / 2 * 2 + s % 2 := by omega
      have q1 : s / 2 / 2 * 2 + s % 2 < r := by omega
      have ho := ro_t.2 ⟨g', q0, q1⟩
      have hp := pz_5 g' q0 q1
      have hd : s / 2 % 2 = 0 ∨ s / 2 % 2 = 1 := by omega
      rcases hd with hd | hd
      · exact at_3_0 Y r s _ h3 s0 (by rw [hz]; exact s1) (by omega) hd rfl ho (by rw [hp]; omega) (by rw [hp]; omega) K fun mm => by have h := hK mm; rw [hd] at h; exact h
      · exact at_3_1 Y r s _ h3 s0 (by rw [hz]; exact s1) (by omega) hd rfl ho (by rw [hp]; omega) (by rw [hp]; omega) K fun mm => by have h := hK mm; rw [hd] at h; exact h
    · rw [show (4 : Int) - 1 = 3 from rfl] at hK s1 hz
      have q0 : 0 ≤ s / 2 / 3 * 2 + s % 2 := by omega
      have q1 : s / 2 / 3 * 2 + s % 2 < r := by omega
      have ho := ro_t.2 ⟨g', q0, q1⟩
      have hp := pz_5 g' q0 q1
      have hd : s / 2 % 3 = 0 ∨ s / 2 % 3 = 1 ∨ s / 2 % 3 = 2 := by omega
      rcases hd with hd | hd | hd
      · exact at_4_0 Y r s _ h3 s0 (by rw [hz]; exact s1) (by omega) hd rfl ho (by rw [hp]; omega) (by rw [hp]; omega) K fun mm => by have h := hK mm; rw [hd] at h; exact h
      · exact at_4_1 Y r s _ h3 s0 (by rw [hz]; exact s1) (by omega) hd rfl ho (by rw [hp]; omega) (by rw [hp]; omega) K fun mm => by have h := hK mm; rw [hd] at h; exact h
      · exact at_4_2 Y r s _ h3 s0 (by rw [hz]; exact s1) (by omega) hd rfl ho (by rw [hp]; omega) (by rw [hp]; omega) K fun mm => by have h := hK mm; rw [hd] at h; exact h
  · have hr : ar l m r s = 0 := by rw [ar_eq, if_neg h]
    have hm : am l m r s = 0 := by rw [am_eq, if_neg h]
    rw [ab_f h, hr, hm] at hK
    by_cases s0 : s < 0
    · exact at_lo Y l m r s s0 K hK
    · refine at_hi Y l m r s (by omega) ?_ K hK
      rw [sz_eq]
      split
      · rename_i g
        exact Int.not_lt.1 fun x => h ⟨g, by omega, x⟩
      · omega
section
variable {P : Program}
theorem callable_fok {f : Nat} {af : AFunc} (h : FOk P f af) : Callable P f := by
  obtain ⟨fn, h3, h4, h5⟩ := h
  exact callable_of h3 (body_of_comp h4) h5
theorem la0_ok : LastOk P la0 id := last_none (A := pA) pHolds
theorem tb0_ok : TabOk P tb0 := fun f af h => nomatch h
theorem tbA_ok (o17 : FOk P 17 c17) : TabOk P tbA := by
  intro f af h
  simp only [tbA] at h
  by_cases e : f = 17
  · subst e; cases h; exact o17
  · rw [nbeqF e] at h; cases h
variable (hmix : P.follows .mixedOrders = true)
include hmix
theorem la1_ok (o : FOk P 10 c10) : LastOk P la1 id := lastFn_ok (callable_fok o) (fun ρ args args' v hv ha => by
  unfold R10 at hv; split at hv
  · cases hv; exact answers_of_walk hmix o (callD_sound pHolds hmix tb0_ok la0_ok 5) ha rfl rfl (fun K hK => right _ _ _ _ K hK)
  · cases hv) la0_ok
theorem la2_ok (h : LastOk P la1 id) (o : FOk P 13 c13) : LastOk P la2 id := lastFn_ok (callable_fok o) (fun ρ args args' v hv ha => by
  unfold R13 at hv; split at hv
  · cases hv; exact answers_of_walk hmix o (callD_sound pHolds hmix tb0_ok h 5) ha rfl rfl (fun K hK => size_walk _ _ _ _ K hK)
  · cases hv) h
theorem la3_ok (h : LastOk P la2 id) (o : FOk P 22 c22) : LastOk P la3 id := lastFn_ok (callable_fok o) (fun ρ args args' v hv ha => by
  unfold R22 at hv; split at hv
  · cases hv; exact answers_of_walk hmix o (callD_sound pHolds hmix tb0_ok h 5) ha rfl rfl (fun K hK => row_walk _ _ _ _ _ K hK)
  · cases hv) h
theorem la4_ok (h : LastOk P la3 id) (o : FOk P 16 c16) : LastOk P la4 id := lastFn_ok (callable_fok o) (fun ρ args args' v hv ha => by
  unfold R16 at hv; split at hv
  · cases hv; exact answers_of_walk hmix o (callD_sound pHolds hmix tb0_ok h 5) ha rfl rfl (fun K hK => par_walk _ _ _ _ _ K hK)
  · cases hv) h
theorem la5a_ok (h : LastOk P la4 id) (o : FOk P 12 c12) (o17 : FOk P 17 c17) : LastOk P (lastFn 12 R12 la4) id := lastFn_ok (callable_fok o) (fun ρ args args' v hv ha => by
  unfold R12 at hv; split at hv
  · cases hv; exact answers_of_walk hmix o (callD_sound pHolds hmix (tbA_ok o17) h 5) ha rfl rfl (fun K hK => at_walk _ _ _ _ _ K hK)
  · cases hv) h
end
theorem szN_eq {l m r : Int} (g : rgP l m r) : sz l m r = ((szN m r : Nat) : Int) ∧ szN m r ≤ 192 := by
  have hz : sz l m r = r * (m - 1) := by rw [sz_eq, if_pos g]
  obtain ⟨h1, h2, h3, h4⟩ := g
  have hp : 0 ≤ r * (m - 1) ∧ r * (m - 1) ≤ 192 := by
    rcases h1 with ⟨rfl, rfl⟩ | ⟨rfl, rfl | rfl⟩
    · rw [show (2 : Int) - 1 = 1 from rfl]; omega
    · rw [show (3 : Int) - 1 = 2 from rfl]; omega
    · rw [show (4 : Int) - 1 = 3 from rfl]; omega
  rw [hz]; unfold szN; omega
theorem at_in {l m r : Int} (g : rgP l m r) {k : Nat} (hk : k < szN m r) : ab l m r k = true ∧ ar l m r k = arF m k ∧ am l m r k = amF l m k := by
  have hz := szN_eq g
  have e : sz l m r = r * (m - 1) := by rw [sz_eq, if_pos g]
  have q : rgP l m r ∧ 0 ≤ (k : Int) ∧ (k : Int) < r * (m - 1) := ⟨g, by omega, by omega⟩
  refine ⟨ab_t.2 q, by rw [ar_eq, if_pos q]; rfl, ?_⟩
  rw [am_eq, if_pos q]
  have q2 : 0 ≤ (k : Int) / 2 / (m - 1) * 2 + (k : Int) % 2 ∧ (k : Int) / 2 / (m - 1) * 2 + (k : Int) % 2 < r := by
    obtain ⟨h1, h2, h3, h4⟩ := g
    have q3 := q.2.2
    rcases h1 with ⟨rfl, rfl⟩ | ⟨rfl, rfl | rfl⟩
    · rw [show (2 : Int) - 1 = 1 from rfl] at *; omega
    · rw [show (3 : Int) - 1 = 2 from rfl] at *; omega
    · rw [show (4 : Int) - 1 = 3 from rfl] at *; omega
  rw [pz_eq, if_pos ⟨g, q2⟩]; rfl
abbrev keyV (a b : Int) : V := .agg [.int .i64 a, .int .i64 b]
theorem keyEq_key (a b c d : Int) : keyEq (.many [.int, .int]) (keyV a b) (keyV c d) = some (decide (a = c) && decide (b = d)) := by
  simp only [keyEq, eqCells, eqS, kindEq_self, cond_true, eqI_eq]
  by_cases h1 : a = c <;> by_cases h2 : b = d <;> simp [h1, h2]
theorem findE_no {a b : Int} : ∀ (es : List (V × V × Nat)) (i : Nat), (∀ x ∈ es, ∃ c d, x.1 = keyV c d ∧ ¬ (a = c ∧ b = d)) → findE (.many [.int, .int]) (keyV a b) es i = some none
  | [], _, _ => rfl
  | (k, v, n) :: es, i, h => by
    obtain ⟨c, d, e, hn⟩ := h _ List.mem_cons_self
    simp only at e
    subst e
    have hk : (decide (a = c) && decide (b = d)) = false := by
      by_cases h1 : a = c <;> by_cases h2 : b = d <;> simp_all
    simp only [findE, keyEq_key, hk]
    exact findE_no es (i + 1) fun x hx => h x (List.mem_cons_of_mem _ hx)
theorem findK_no {a b : Int} {es : List (V × V × Nat)} (h : ∀ x ∈ es, ∃ c d, x.1 = keyV c d ∧ ¬ (a = c ∧ b = d)) : findK (.many [.int, .int]) (keyV a b) es = some none := by
  have e : findK (.many [.int, .int]) (keyV a b) es = findE (.many [.int, .int]) (keyV a b) es 0 := rfl
  rw [e, findE_no es 0 h]
section
variable (l m : Int) (R : Nat)
noncomputable def es1 : Nat → List (V × V × Nat)
  | 0 => []
  | i + 1 => es1 i ++ [(keyV (ar l m R i) (am l m R i), (.bool true, i))]
noncomputable def es2 (N : Nat) : Nat → List (V × V × Nat)
  | 0 => es1 l m R N
  | j + 1 => es2 N j ++ [(keyV ((j : Nat) : Int) (pz l m R j), (.bool true, N + j))]
theorem es1_mem : ∀ (i : Nat), ∀ x ∈ es1 l m R i, ∃ k : Nat, k < i ∧ x.1 = keyV (ar l m R k) (am l m R k)
  | 0, x, h => by cases h
  | i + 1, x, h => by
    rcases List.mem_append.1 h with h | h
    · obtain ⟨k, hk, e⟩ := es1_mem i x h
      exact ⟨k, by omega, e⟩
    · simp only [List.mem_singleton] at h
      subst h
      exact ⟨i, by omega, rfl⟩
theorem es2_mem (N : Nat) : ∀ (j : Nat), ∀ x ∈ es2 l m R N j, (∃ k : Nat, k < N ∧ x.1 = keyV (ar l m R k) (am l m R k)) ∨ ∃ k : Nat, k < j ∧ x.1 = keyV ((k : Nat) : Int) (pz l m R k)
  | 0, x, h => .inl (es1_mem l m R N x h)
  | j + 1, x, h => by
    rcases List.mem_append.1 h with h | h
    · rcases es2_mem N j x h with h | ⟨k, hk, e⟩
      · exact .inl h
      · exact .inr ⟨k, by omega, e⟩
    · simp only [List.mem_singleton] at h
      subst h
      exact .inr ⟨j, by omega, rfl⟩
theorem es1_len : ∀ i, (es1 l m R i).length = i
  | 0 => rfl
  | i + 1 => by simp [es1, es1_len i]
theorem es2_len (N : Nat) : ∀ j, (es2 l m R N j).length = N + j
  | 0 => es1_len l m R N
  | j + 1 => by simp [es2, es2_len N j]; omega
end
theorem at_rng {l m r : Int} (g : rgP l m r) {k : Nat} (hk : k < szN m r) : 0 ≤ ar l m r k ∧ ar l m r k < r ∧ 0 ≤ am l m r k ∧ am l m r k < m := by
  obtain ⟨x1, x2, x3⟩ := at_in g hk
  have hz := szN_eq g
  have e : sz l m r = r * (m - 1) := by rw [sz_eq, if_pos g]
  rw [x2, x3]
  unfold arF amF
  obtain ⟨h1, h2, h3, h4⟩ := g
  rcases h1 with ⟨rfl, rfl⟩ | ⟨rfl, rfl | rfl⟩
  · rw [show (2 : Int) - 1 = 1 from rfl] at *; refine ⟨by omega, by omega, Int.emod_nonneg _ (by decide), Int.emod_lt_of_pos _ (by decide)⟩
  · rw [show (3 : Int) - 1 = 2 from rfl] at *; refine ⟨by omega, by omega, Int.emod_nonneg _ (by decide), Int.emod_lt_of_pos _ (by decide)⟩
  · rw [show (4 : Int) - 1 = 3 from rfl] at *; refine ⟨by omega, by omega, Int.emod_nonneg _ (by decide), Int.emod_lt_of_pos _ (by decide)⟩
theorem at_inj {l m r : Int} (g : rgP l m r) {i k : Nat} (hi : i < szN m r) (hk : k < i) : ¬ (ar l m r i = ar l m r k ∧ am l m r i = am l m r k) := by
  obtain ⟨_, x2, x3⟩ := at_in g hi
  obtain ⟨_, y2, y3⟩ := at_in g (k := k) (by omega)
  rw [x2, x3, y2, y3]
  unfold amF arF
  obtain ⟨h1, h2, h3, h4⟩ := g
  rcases h1 with ⟨rfl, rfl⟩ | ⟨rfl, rfl | rfl⟩
  · rw [if_pos rfl, if_pos rfl, show (2 : Int) - 1 = 1 from rfl]; omega
  · rw [if_neg (by decide), if_neg (by decide), show (3 : Int) - 1 = 2 from rfl]; omega
  · rw [if_neg (by decide), if_neg (by decide), show (4 : Int) - 1 = 3 from rfl]; omega
theorem at_par {l m r : Int} (g : rgP l m r) {i j : Nat} (hi : i < szN m r) (hj : (j : Int) < r) : ¬ ((j : Int) = ar l m r i ∧ pz l m r j = am l m r i) := by
  obtain ⟨_, x2, x3⟩ := at_in g hi
  rw [x2, x3]
  unfold amF arF
  have g' := g
  obtain ⟨h1, h2, h3, h4⟩ := g
  rcases h1 with ⟨rfl, rfl⟩ | ⟨rfl, rfl | rfl⟩
  · rw [pz_1 g' (by omega) hj, if_pos rfl, show (2 : Int) - 1 = 1 from rfl]; omega
  · rw [pz_5 g' (by omega) hj, if_neg (by decide), show (3 : Int) - 1 = 2 from rfl]; omega
  · rw [pz_5 g' (by omega) hj, if_neg (by decide), show (4 : Int) - 1 = 3 from rfl]; omega
theorem once_walk (Y : Ys Prop) (l m r : Int) (K : V → Mem → Prop) (hK : ∀ mm, K (.bool true) mm) : body1 pA (callD pA tb0 la5 5) Y c6 [geo l m r] ⟨0, .leaf⟩ K := by
  by_cases g : rgP l m r
  · have hr := g
    obtain ⟨h1, h2, h3, h4⟩ := hr
    obtain ⟨R, rfl⟩ := Int.eq_ofNat_of_zero_le (a := r) (by omega)
    have hz := szN_eq g
    have e : sz l m R = R * (m - 1) := by rw [sz_eq, if_pos g]
    have hR : R ≤ 64 := by omega
    have L1 : LoopOk2 (callD pA tb0 la5 5) c6l0 (.exit 0) (memL 2 [(0, .cells [.int .i64 l, .int .i64 m, .int .i64 ((R : Nat) : Int)] false), (1, .map [] 0 false)]) [(s1, .ptr 0 0), (s3, .map 1), (s4, .int .i64 0)] (memL 2 [(0, .cells [.int .i64 l, .int .i64 m, .int .i64 ((R : Nat) : Int)] false), (1, .map (es1 l m R (szN m R)) (szN m R) false)]) [(s1, .ptr 0 0), (s3, .map 1)] :=
      loop2 (szN m R) (by unfold rounds; omega) (fun i => memL 2 [(0, .cells [.int .i64 l, .int .i64 m, .int .i64 ((R : Nat) : Int)] false), (1, .map (es1 l m R i) i false)]) (fun i => [(s1, .ptr 0 0), (s3, .map 1), (s4, .int .i64 ((i : Nat) : Int))])
        (fun Y i T hi hT K hK => by
          obtain ⟨q1, q2, q3, q4⟩ := at_rng g hi
          exact once_s1 Y l m R (szN m R) i _ _ hz.1 hz.2 hi (at_in g hi).1 q1 q2 q3 q4 (findK_no fun x hx => by
            obtain ⟨k, hk, hx⟩ := es1_mem l m R i x hx
            exact ⟨_, _, hx, at_inj g hi hk⟩) rfl T hT K hK)
        (fun Y T hT K hK => once_f1 Y l m R (szN m R) _ hz.1 hz.2 T hT K hK)
    have L2 : LoopOk2 (callD pA tb0 la5 5) c6l1 (.exit 2) (memL 2 [(0, .cells [.int .i64 l, .int .i64 m, .int .i64 ((R : Nat) : Int)] false), (1, .map (es1 l m R (szN m R)) (szN m R) false)]) [(s1, .ptr 0 0), (s3, .map 1), (s8, .int .i64 0)] (memL 2 [(0, .cells [.int .i64 l, .int .i64 m, .int .i64 ((R : Nat) : Int)] false), (1, .map (es2 l m R (szN m R) R) (szN m R + R) false)]) [(s1, .ptr 0 0), (s3, .map 1)] :=
      loop2 R (by unfold rounds; omega) (fun j => memL 2 [(0, .cells [.int .i64 l, .int .i64 m, .int .i64 ((R : Nat) : Int)] false), (1, .map (es2 l m R (szN m R) j) (szN m R + j) false)]) (fun j => [(s1, .ptr 0 0), (s3, .map 1), (s8, .int .i64 ((j : Nat) : Int))])
        (fun Y j T hj hT K hK => by
          refine once_s2 Y l m R j (szN m R + j) _ _ hR hj (ro_t.2 ⟨g, by omega, by omega⟩) (findK_no fun x hx => ?_) rfl T hT K hK
          rcases es2_mem l m R (szN m R) j x hx with ⟨k, hk, hx⟩ | ⟨k, hk, hx⟩
          · exact ⟨_, _, hx, at_par g hk (by omega)⟩
          · exact ⟨_, _, hx, fun h => by have := h.1; omega⟩)
        (fun Y T hT K hK => once_f2 Y l m R _ _ hR T hT K hK)
    have hl : ((List.length (es2 l m R (szN m R) R) : Nat) : Int) = (R : Int) * m ∧ 2 ≤ m ∧ m ≤ 4 ∧ (R : Int) * m ≤ 256 := by
      rw [es2_len]
      have hz1 := hz.1
      rw [e] at hz1
      rcases h1 with ⟨rfl, rfl⟩ | ⟨rfl, rfl | rfl⟩
      · rw [show (2 : Int) - 1 = 1 from rfl] at hz1; omega
      · rw [show (3 : Int) - 1 = 2 from rfl] at hz1; omega
      · rw [show (4 : Int) - 1 = 3 from rfl] at hz1; omega
    exact once_y Y l m R _ _ _ _ (rg_t g) L1 L2 hl.2.1 hl.2.2.1 hR (by rw [← hl.1]; omega) hl.2.2.2 hl.1 K hK
  · exact once_n Y l m r (rg_f g) (by rw [sz_eq, if_neg g]) K hK

end Go.Proofs.Ytefklpegpecliaa
