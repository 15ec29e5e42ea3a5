/- The functions of package place by what they answer, and the law by its cases. No condition. -/
import Derived.Test.YtefklpegpecliaaTW
import Derived.Test.YtefklpegpecliaaTAa
import Derived.Test.YtefklpegpecliaaTAb
import Derived.Test.YtefklpegpecliaaTL
namespace Go.Proofs.Ytefklpegpecliaa
open Go Go.AM
set_option maxRecDepth 100000
set_option maxHeartbeats 0
set_option linter.unusedVariables false
theorem ab_t {l m r s : Int} : ab l m r s = true ↔ rgP l m r ∧ 0 ≤ s ∧ s < r * (m - 1) := by rw [ab_eq, decide_eq_true_eq]
theorem ab_f {l m r s : Int} (h : ¬ (rgP l m r ∧ 0 ≤ s ∧ s < r * (m - 1))) : ab l m r s = false := by rw [ab_eq, decide_eq_false h]
theorem ro_t {l m r s : Int} : roB l m r s = true ↔ rgP l m r ∧ 0 ≤ s ∧ s < r := by rw [roB_eq, decide_eq_true_eq]
theorem ro_f {l m r s : Int} (h : ¬ (rgP l m r ∧ 0 ≤ s ∧ s < r)) : roB l m r s = false := by rw [roB_eq, decide_eq_false h]
theorem rg_t {l m r : Int} (h : rgP l m r) : rgB l m r = true := by rw [rgB_eq, decide_eq_true h]
theorem rg_f {l m r : Int} (h : ¬ rgP l m r) : rgB l m r = false := by rw [rgB_eq, decide_eq_false h]
theorem pz_1 {r x : Int} (g : rgP 1 2 r) (h0 : 0 ≤ x) (h1 : x < r) : pz 1 2 r x = 1 := by rw [pz_eq, if_pos ⟨g, h0, h1⟩, if_pos rfl]
theorem pz_5 {m r x : Int} (g : rgP 5 m r) (h0 : 0 ≤ x) (h1 : x < r) : pz 5 m r x = m - 1 - x / 2 % m := by rw [pz_eq, if_pos ⟨g, h0, h1⟩, if_neg (by decide)]
theorem size_walk (Y : Ys Prop) (l m r : Int) (K : V → Mem → Prop) (hK : ∀ mm, K (.int .i64 (sz l m r)) mm) : body1 pA (callD pA tb0 la1 5) Y c13 [geo l m r] ⟨0, .leaf⟩ K := by
  by_cases g : rgP l m r
  · have hb := rg_t g
    have hz : sz l m r = r * (m - 1) := by rw [sz_eq, if_pos g]
    obtain ⟨h1, h2, h3, h4⟩ := g
    rcases h1 with ⟨rfl, rfl⟩ | ⟨rfl, rfl | rfl⟩
    · exact size_2 Y r hb h2 h3 K fun mm => by have h := hK mm; rw [hz, show (2 : Int) - 1 = 1 from rfl] at h; exact h
    · exact size_3 Y r hb h2 h3 K fun mm => by have h := hK mm; rw [hz, show (3 : Int) - 1 = 2 from rfl] at h; exact h
    · exact size_4 Y r hb h2 h3 K fun mm => by have h := hK mm; rw [hz, show (4 : Int) - 1 = 3 from rfl] at h; exact h
  · have hz : sz l m r = 0 := by rw [sz_eq, if_neg g]
    exact size_n Y l m r (rg_f g) hz K fun mm => by have h := hK mm; rw [hz] at h; exact h
theorem row_walk (Y : Ys Prop) (l m r s : Int) (K : V → Mem → Prop) (hK : ∀ mm, K (.bool (roB l m r s)) mm) : body1 pA (callD pA tb0 la2 5) Y c22 [geo l m r, .int .i64 s] ⟨0, .leaf⟩ K := by
  by_cases g : rgP l m r
  · exact row_y Y l m r s (rg_t g) g K hK
  · exact row_n Y l m r s (rg_f g) g K hK
theorem par_walk (Y : Ys Prop) (l m r s : Int) (K : V → Mem → Prop) (hK : ∀ mm, K (.tuple [.int .i64 (pz l m r s), .bool (roB l m r s)]) mm) : body1 pA (callD pA tb0 la3 5) Y c16 [geo l m r, .int .i64 s] ⟨0, .leaf⟩ K := by
  by_cases h : rgP l m r ∧ 0 ≤ s ∧ s < r
  · have ho := ro_t.2 h
    rw [ho] at hK
    obtain ⟨g, s0, s1⟩ := h
    have g' := g
    obtain ⟨h1, h2, h3, h4⟩ := g
    rcases h1 with ⟨rfl, rfl⟩ | ⟨rfl, rfl | rfl⟩
    · exact par_2 Y r s ho s0 (by omega) K fun mm => by have h := hK mm; rw [pz_1 g' s0 s1] at h; exact h
    · exact par_3 Y r s ho s0 (by omega) K fun mm => by have h := hK mm; rw [pz_5 g' s0 s1, show (3 : Int) - 1 = 2 from rfl] at h; exact h
    · exact par_4 Y r s ho s0 (by omega) K fun mm => by have h := hK mm; rw [pz_5 g' s0 s1, show (4 : Int) - 1 = 3 from rfl] at h; exact h
  · have hz : pz l m r s = 0 := by rw [pz_eq, if_neg h]
    exact par_n Y l m r s (ro_f h) hz K fun mm => by have k := hK mm; rw [hz, ro_f h] at k; exact k
theorem at_walk (Y : Ys Prop) (l m r s : Int) (K : V → Mem → Prop) (hK : ∀ mm, K (.tuple [.int .i64 (ar l m r s), .int .i64 (am l m r s), .bool (ab l m r s)]) mm) : body1 pA (callD pA tbA la4 5) Y c12 [geo l m r, .int .i64 s] ⟨0, .leaf⟩ K := by
  by_cases h : rgP l m r ∧ 0 ≤ s ∧ s < r * (m - 1)
  · have hb := ab_t.2 h
    have hr : ar l m r s = s / 2 / (m - 1) * 2 + s % 2 := by rw [ar_eq, if_pos h]
    have hm : am l m r s = (pz l m r (s / 2 / (m - 1) * 2 + s % 2) + 1 + s / 2 % (m - 1)) % m := by rw [am_eq, if_pos h]
    rw [hb, hr, hm] at hK
    obtain ⟨g, s0, s1⟩ := h
    have hz : sz l m r = r * (m - 1) := by rw [sz_eq, if_pos g]
    have g' := g
    obtain ⟨h1, h2, h3, h4⟩ := g
    rcases h1 with ⟨rfl, rfl⟩ | ⟨rfl, rfl | rfl⟩
    · rw [show (2 : Int) - 1 = 1 from rfl] at hK s1 hz
      have q0 : 0 ≤ s / 2 / 1 * 2 + s % 2 := by omega
      have q1 : s / 2 / 1 * 2 + s % 2 < r := by omega
      have ho := ro_t.2 ⟨g', q0, q1⟩
      have hp := pz_1 g' q0 q1
      have hd : s / 2 % 1 = 0 := by omega
      rcases hd with hd
      · exact at_2_0 Y r s _ h3 s0 (by rw [hz]; exact s1) (by omega) hd rfl ho (by rw [hp]; omega) (by rw [hp]; omega) K fun mm => by have h := hK mm; rw [hd] at h; exact h
    · rw [show (3 : Int) - 1 = 2 from rfl] at hK s1 hz
      have q0 : 0 ≤ s / 2 / 2 * 2 + s % 2 := by omega
      have q1 : s / 2 / 2 * 2 + s % 2 < r := by omega
      have ho := ro_t.2 ⟨g', q0, q1⟩
      have hp := pz_5 g' q0 q1
      have hd : s / 2 % 2 = 0 ∨ s / 2 % 2 = 1 := by omega
      rcases hd with hd | hd
      · exact at_3_0 Y r s _ h3 s0 (by rw [hz]; exact s1) (by omega) hd rfl ho (by rw [hp]; omega) (by rw [hp]; omega) K fun mm => by have h := hK mm; rw [hd] at h; exact h
      · exact at_3_1 Y r s _ h3 s0 (by rw [hz]; exact s1) (by omega) hd rfl ho (by rw [hp]; omega) (by rw [hp]; omega) K fun mm => by have h := hK mm; rw [hd] at h; exact h
    · rw [show (4 : Int) - 1 = 3 from rfl] at hK s1 hz
      have q0 : 0 ≤ s / 2 / 3 * 2 + s % 2 := by omega
      have q1 : s / 2 / 3 * 2 + s % 2 < r := by omega
      have ho := ro_t.2 ⟨g', q0, q1⟩
      have hp := pz_5 g' q0 q1
      have hd : s / 2 % 3 = 0 ∨ s / 2 % 3 = 1 ∨ s / 2 % 3 = 2 := by omega
      rcases hd with hd | hd | hd
      · exact at_4_0 Y r s _ h3 s0 (by rw [hz]; exact s1) (by omega) hd rfl ho (by rw [hp]; omega) (by rw [hp]; omega) K fun mm => by have h := hK mm; rw [hd] at h; exact h
      · exact at_4_1 Y r s _ h3 s0 (by rw [hz]; exact s1) (by omega) hd rfl ho (by rw [hp]; omega) (by rw [hp]; omega) K fun mm => by have h := hK mm; rw [hd] at h; exact h
      · exact at_4_2 Y r s _ h3 s0 (by rw [hz]; exact s1) (by omega) hd rfl ho (by rw [hp]; omega) (by rw [hp]; omega) K fun mm => by have h := hK mm; rw [hd] at h; exact h
  · have hr : ar l m r s = 0 := by rw [ar_eq, if_neg h]
    have hm : am l m r s = 0 := by rw [am_eq, if_neg h]
    rw [ab_f h, hr, hm] at hK
    by_cases s0 : s < 0
    · exact at_lo Y l m r s s0 K hK
    · refine at_hi Y l m r s (by omega) ?_ K hK
      rw [sz_eq]
      split
      · rename_i g
        exact Int.not_lt.1 fun x => h ⟨g, by omega, x⟩
      · omega
section
variable {P : Program}
theorem callable_fok {f : Nat} {af : AFunc} (h : FOk P f af) : Callable P f := by
  obtain ⟨fn, h3, h4, h5⟩ := h
  exact callable_of h3 (body_of_comp h4) h5
theorem la0_ok : LastOk P la0 id := last_none (A := pA) pHolds
theorem tb0_ok : TabOk P tb0 := fun f af h => nomatch h
theorem tbA_ok (o17 : FOk P 17 c17) : TabOk P tbA := by
  intro f af h
  simp only [tbA] at h
  by_cases e : f = 17
  · subst e; cases h; exact o17
  · rw [nbeqF e] at h; cases h
variable (hmix : P.follows .mixedOrders = true)
include hmix
theorem la1_ok (o : FOk P 10 c10) : LastOk P la1 id := lastFn_ok (callable_fok o) (fun ρ args args' v hv ha => by
  unfold R10 at hv; split at hv
  · cases hv; exact answers_of_walk hmix o (callD_sound pHolds hmix tb0_ok la0_ok 5) ha rfl rfl (fun K hK => right _ _ _ _ K hK)
  · cases hv) la0_ok
theorem la2_ok (h : LastOk P la1 id) (o : FOk P 13 c13) : LastOk P la2 id := lastFn_ok (callable_fok o) (fun ρ args args' v hv ha => by
  unfold R13 at hv; split at hv
  · cases hv; exact answers_of_walk hmix o (callD_sound pHolds hmix tb0_ok h 5) ha rfl rfl (fun K hK => size_walk _ _ _ _ K hK)
  · cases hv) h
theorem la3_ok (h : LastOk P la2 id) (o : FOk P 22 c22) : LastOk P la3 id := lastFn_ok (callable_fok o) (fun ρ args args' v hv ha => by
  unfold R22 at hv; split at hv
  · cases hv; exact answers_of_walk hmix o (callD_sound pHolds hmix tb0_ok h 5) ha rfl rfl (fun K hK => row_walk _ _ _ _ _ K hK)
  · cases hv) h
theorem la4_ok (h : LastOk P la3 id) (o : FOk P 16 c16) : LastOk P la4 id := lastFn_ok (callable_fok o) (fun ρ args args' v hv ha => by
  unfold R16 at hv; split at hv
  · cases hv; exact answers_of_walk hmix o (callD_sound pHolds hmix tb0_ok h 5) ha rfl rfl (fun K hK => par_walk _ _ _ _ _ K hK)
  · cases hv) h
theorem la5a_ok (h : LastOk P la4 id) (o : FOk P 12 c12) (o17 : FOk P 17 c17) : LastOk P (lastFn 12 R12 la4) id := lastFn_ok (callable_fok o) (fun ρ args args' v hv ha => by
  unfold R12 at hv; split at hv
  · cases hv; exact answers_of_walk hmix o (callD_sound pHolds hmix (tbA_ok o17) h 5) ha rfl rfl (fun K hK => at_walk _ _ _ _ _ K hK)
  · cases hv) h
end
theorem rpar_walk (Y : Ys Prop) (l m r s : Int) (h : rgP l m r ∧ 0 ≤ s ∧ s < 64) (K : V → Mem → Prop) (hK : ∀ mm, K (.int .i64 (if l = 1 then 1 else m - 1 - s / 2 % m)) mm) : body1 pA (callD pA tb0 la0 5) Y c19 [geo l m r, .int .i64 s] ⟨0, .leaf⟩ K := by
  obtain ⟨g, s0, s1⟩ := h
  obtain ⟨h1, h2, h3, h4⟩ := g
  rcases h1 with ⟨rfl, rfl⟩ | ⟨rfl, rfl | rfl⟩
  · exact rpar_2 Y 2 r s K fun mm => by have h := hK mm; rw [if_pos rfl] at h; exact h
  · exact rpar_3 Y r s s0 s1 K fun mm => by have h := hK mm; rw [if_neg (by decide), show (3 : Int) - 1 = 2 from rfl] at h; exact h
  · exact rpar_4 Y r s s0 s1 K fun mm => by have h := hK mm; rw [if_neg (by decide), show (4 : Int) - 1 = 3 from rfl] at h; exact h
theorem all_walk (Y : Ys Prop) (l m r : Int) (h : rgP l m r) : body1 pA (callD pA tb0 la6 5) Y c15 [geo l m r] ⟨0, .leaf⟩ (endL (.new (.slice (szN m r) 2) none (.cells (cellsF l m (szN m r) 0) false))) := by
  have g := h
  obtain ⟨h1, h2, h3, h4⟩ := h
  rcases h1 with ⟨rfl, rfl⟩ | ⟨rfl, rfl | rfl⟩
  · exact all_2 Y r h2 h3 h4 fun s s0 s1 => R19_1 g s0 s1
  · exact all_3 Y r h2 h3 h4 fun s s0 s1 => R19_5 rfl g s0 s1
  · exact all_4 Y r h2 h3 h4 fun s s0 s1 => R19_5 rfl g s0 s1
theorem szN_eq {l m r : Int} (g : rgP l m r) : sz l m r = ((szN m r : Nat) : Int) ∧ szN m r ≤ 192 := by
  have hz : sz l m r = r * (m - 1) := by rw [sz_eq, if_pos g]
  obtain ⟨h1, h2, h3, h4⟩ := g
  have hp : 0 ≤ r * (m - 1) ∧ r * (m - 1) ≤ 192 := by
    rcases h1 with ⟨rfl, rfl⟩ | ⟨rfl, rfl | rfl⟩
    · rw [show (2 : Int) - 1 = 1 from rfl]; omega
    · rw [show (3 : Int) - 1 = 2 from rfl]; omega
    · rw [show (4 : Int) - 1 = 3 from rfl]; omega
  rw [hz]; unfold szN; omega
theorem at_in {l m r : Int} (g : rgP l m r) {k : Nat} (hk : k < szN m r) : ab l m r k = true ∧ ar l m r k = arF m k ∧ am l m r k = amF l m k := by
  have hz := szN_eq g
  have e : sz l m r = r * (m - 1) := by rw [sz_eq, if_pos g]
  have q : rgP l m r ∧ 0 ≤ (k : Int) ∧ (k : Int) < r * (m - 1) := ⟨g, by omega, by omega⟩
  refine ⟨ab_t.2 q, by rw [ar_eq, if_pos q]; rfl, ?_⟩
  rw [am_eq, if_pos q]
  have q2 : 0 ≤ (k : Int) / 2 / (m - 1) * 2 + (k : Int) % 2 ∧ (k : Int) / 2 / (m - 1) * 2 + (k : Int) % 2 < r := by
    obtain ⟨h1, h2, h3, h4⟩ := g
    have q3 := q.2.2
    rcases h1 with ⟨rfl, rfl⟩ | ⟨rfl, rfl | rfl⟩
    · rw [show (2 : Int) - 1 = 1 from rfl] at *; omega
    · rw [show (3 : Int) - 1 = 2 from rfl] at *; omega
    · rw [show (4 : Int) - 1 = 3 from rfl] at *; omega
  rw [pz_eq, if_pos ⟨g, q2⟩]; rfl
theorem kF_pre : ∀ (pre l : List (Int × Int)) (i : Int), (∀ e ∈ pre, e.1 < i) → kF (pre ++ l) i = pre.length + kF l i
  | [], l, i, _ => by simp
  | (t, x) :: pre, l, i, h => by
    have h1 := h (t, x) List.mem_cons_self
    simp only at h1
    simp only [List.cons_append, kF, List.length_cons, if_pos h1, kF_pre pre l i fun e he => h e (List.mem_cons_of_mem _ he)]
    omega
theorem kF_post : ∀ (l : List (Int × Int)) (i : Int), (∀ e ∈ l, i ≤ e.1) → kF l i = 0
  | [], _, _ => rfl
  | (t, x) :: l, i, h => by
    have h1 := h (t, x) List.mem_cons_self
    simp only at h1
    simp only [kF, if_neg (show ¬ t < i by omega), kF_post l i fun e he => h e (List.mem_cons_of_mem _ he)]
    rfl
theorem kF_same : ∀ (l : List (Int × Int)) (i : Int), (∀ e ∈ l, e.1 ≠ i) → kF l (i + 1) = kF l i
  | [], _, _ => rfl
  | (t, x) :: l, i, h => by
    have h1 := h (t, x) List.mem_cons_self
    simp only at h1
    have h2 : (if t < i + 1 then (1 : Int) else 0) = if t < i then 1 else 0 := by
      by_cases k : t < i
      · rw [if_pos k, if_pos (by omega)]
      · rw [if_neg k, if_neg (by omega)]
    simp only [kF, h2, kF_same l i fun e he => h e (List.mem_cons_of_mem _ he)]
theorem wf_same : ∀ (l : List (Int × Int)) (y i : Int), (∀ e ∈ l, e.1 = i → e.2 ≠ y) → wF l y (i + 1) = wF l y i ∧ fF l y (i + 1) = fF l y i
  | [], _, _, _ => ⟨rfl, rfl⟩
  | (t, x) :: l, y, i, h => by
    have h1 := h (t, x) List.mem_cons_self
    simp only at h1
    have h2 : (x = y ∧ t < i + 1) ↔ (x = y ∧ t < i) := ⟨fun k => ⟨k.1, by have q : t ≠ i := fun hh => h1 hh k.1; omega⟩, fun k => ⟨k.1, by omega⟩⟩
    obtain ⟨h3, h4⟩ := wf_same l y i fun e he => h e (List.mem_cons_of_mem _ he)
    simp only [wF, fF, h2, h3, h4, and_self]
theorem wf_hit : ∀ (pre post : List (Int × Int)) (y i : Int), (∀ e ∈ pre, e.2 ≠ y) → wF (pre ++ (i, y) :: post) y (i + 1) = i ∧ fF (pre ++ (i, y) :: post) y (i + 1) = true
  | [], post, y, i, _ => by
    have : y = y ∧ i < i + 1 := ⟨rfl, by omega⟩
    show (if y = y ∧ i < i + 1 then i else _) = i ∧ (decide (y = y ∧ i < i + 1) || _) = true
    rw [if_pos this, decide_eq_true this]
    exact ⟨rfl, rfl⟩
  | (t, x) :: pre, post, y, i, h => by
    have h1 := h (t, x) List.mem_cons_self
    simp only at h1
    obtain ⟨h3, h4⟩ := wf_hit pre post y i fun e he => h e (List.mem_cons_of_mem _ he)
    have h5 : ¬ (x = y ∧ t < i + 1) := fun k => h1 k.1
    simp only [List.cons_append, wF, fF, if_neg h5, decide_eq_false h5, h3, h4, Bool.false_or, and_self]
theorem wf_zero : ∀ (l : List (Int × Int)) (y : Int), (∀ e ∈ l, 0 ≤ e.1) → wF l y 0 = 0 ∧ fF l y 0 = false
  | [], _, _ => ⟨rfl, rfl⟩
  | (t, x) :: l, y, h => by
    have h1 := h (t, x) List.mem_cons_self
    simp only at h1
    obtain ⟨h3, h4⟩ := wf_zero l y fun e he => h e (List.mem_cons_of_mem _ he)
    have h5 : ¬ (x = y ∧ t < 0) := fun k => by omega
    simp only [wF, fF, if_neg h5, decide_eq_false h5, h3, h4, Bool.false_or, and_self]
theorem S17_y {l m r s : Int} (o : roB l m r s = true) : S17 [geo l m r, .int .i64 s] = some (.new (.slice (m - 1).toNat 1) none (.cells (dataF m (pz l m r s)) false)) := if_pos o
theorem S17_n {l m r s : Int} (o : roB l m r s = false) : S17 [geo l m r, .int .i64 s] = some (.plain .nilslice) := if_neg (by simp [o])
theorem sc_n {l m r s x : Int} (o : roB l m r s = false) : scI l m r s x = 0 ∧ scB l m r s x = false := by
  rw [scI_eq, scB_eq]; unfold secF; rw [if_neg (by simp [o])]; exact ⟨rfl, rfl⟩
theorem sc_y {l m r s x : Int} (o : roB l m r s = true) : scI l m r s x = wF (tsF m (pz l m r s) s 0 (dataL m (pz l m r s))) x (r * (m - 1)) ∧ scB l m r s x = fF (tsF m (pz l m r s) s 0 (dataL m (pz l m r s))) x (r * (m - 1)) := by
  rw [scI_eq, scB_eq]; unfold secF; rw [if_pos o]; exact ⟨rfl, rfl⟩
theorem pz_rng {l m r s : Int} (o : roB l m r s = true) : 0 ≤ pz l m r s ∧ pz l m r s < m := by
  obtain ⟨g, s0, s1⟩ := ro_t.1 o
  have g' := g
  obtain ⟨h1, h2, h3, h4⟩ := g
  rcases h1 with ⟨rfl, rfl⟩ | ⟨rfl, rfl | rfl⟩
  · rw [pz_1 g' s0 s1]; omega
  · rw [pz_5 g' s0 s1]; omega
  · rw [pz_5 g' s0 s1]; omega
theorem data_walk (Y : Ys Prop) (l m r s : Int) (o : roB l m r s = true) : body1 pA (callD pA tb0 la4 5) Y c17 [geo l m r, .int .i64 s] ⟨0, .leaf⟩ (endL (.new (.slice (m - 1).toNat 1) none (.cells (dataF m (pz l m r s)) false))) := by
  have pr := pz_rng o
  obtain ⟨g, s0, s1⟩ := ro_t.1 o
  obtain ⟨h1, h2, h3, h4⟩ := g
  rcases h1 with ⟨rfl, rfl⟩ | ⟨rfl, rfl | rfl⟩
  · have e : dataF 2 (pz 1 2 r s) = [.int .i64 ((pz 1 2 r s + 1 + 0) % 2)] := by
      show [V.int .i64 ((pz 1 2 r s + 1 + ((0 : Nat) : Int)) % 2)] = _
      rw [show pz 1 2 r s + 1 + ((0 : Nat) : Int) = pz 1 2 r s + 1 + 0 from rfl]
    rw [e]
    exact data_2 Y r s _ o rfl pr.1 pr.2
  · have e : dataF 3 (pz 5 3 r s) = [.int .i64 ((pz 5 3 r s + 1 + 0) % 3), .int .i64 ((pz 5 3 r s + 2) % 3)] := by
      show [V.int .i64 ((pz 5 3 r s + 1 + ((0 : Nat) : Int)) % 3), V.int .i64 ((pz 5 3 r s + 1 + ((1 : Nat) : Int)) % 3)] = _
      rw [show pz 5 3 r s + 1 + ((0 : Nat) : Int) = pz 5 3 r s + 1 + 0 from rfl, show pz 5 3 r s + 1 + ((1 : Nat) : Int) = pz 5 3 r s + 2 by omega]
    rw [e]
    exact data_3 Y r s _ o rfl pr.1 pr.2
  · have e : dataF 4 (pz 5 4 r s) = [.int .i64 ((pz 5 4 r s + 1 + 0) % 4), .int .i64 ((pz 5 4 r s + 2) % 4), .int .i64 ((pz 5 4 r s + 3) % 4)] := by
      show [V.int .i64 ((pz 5 4 r s + 1 + ((0 : Nat) : Int)) % 4), V.int .i64 ((pz 5 4 r s + 1 + ((1 : Nat) : Int)) % 4), V.int .i64 ((pz 5 4 r s + 1 + ((2 : Nat) : Int)) % 4)] = _
      rw [show pz 5 4 r s + 1 + ((0 : Nat) : Int) = pz 5 4 r s + 1 + 0 from rfl, show pz 5 4 r s + 1 + ((1 : Nat) : Int) = pz 5 4 r s + 2 by omega, show pz 5 4 r s + 1 + ((2 : Nat) : Int) = pz 5 4 r s + 3 by omega]
    rw [e]
    exact data_4 Y r s _ o rfl pr.1 pr.2
theorem sec_walk (Y : Ys Prop) (l m r s x : Int) (K : V → Mem → Prop) (hK : ∀ mm, K (.tuple [.int .i64 (scI l m r s x), .bool (scB l m r s x)]) mm) : body1 pA (callD pA tb23 la8 5) Y c18 [geo l m r, .int .i64 s, .int .i64 x] ⟨0, .leaf⟩ K := by
  cases o : roB l m r s with
  | false =>
    refine sec_n Y l m r s x (S17_n o) K fun mm => ?_
    have h := hK mm
    rw [(sc_n o).1, (sc_n o).2] at h
    exact h
  | true =>
    have hS := S17_y o
    have hc := sc_y (x := x) o
    have pr := pz_rng o
    obtain ⟨g, s0, s1⟩ := ro_t.1 o
    obtain ⟨h1, h2, h3, h4⟩ := g
    obtain ⟨q, rfl⟩ := Int.eq_ofNat_of_zero_le s0
    have hq : q < 64 := by omega
    rcases h1 with ⟨rfl, rfl⟩ | ⟨rfl, rfl | rfl⟩
    · have e1 : scI 1 2 r q x = wF [(((q : Int) / 2 * (2 - 1) + ((0 : Nat) : Int)) * 2 + (q : Int) % 2, (((pz 1 2 r q) + 1 + ((0 : Nat) : Int)) % 2))] x (r * (2 - 1)) := hc.1
      have e2 : scB 1 2 r q x = fF [(((q : Int) / 2 * (2 - 1) + ((0 : Nat) : Int)) * 2 + (q : Int) % 2, (((pz 1 2 r q) + 1 + ((0 : Nat) : Int)) % 2))] x (r * (2 - 1)) := hc.2
      clear hc
      simp only [wF, fF] at e1 e2
      have t0 : ((q : Int) / 2 * (2 - 1) + ((0 : Nat) : Int)) * 2 + (q : Int) % 2 < r * (2 - 1) := by omega
      by_cases u0 : x = (((pz 1 2 r q) + 1 + ((0 : Nat) : Int)) % 2)
      · refine sec_2_0 Y r q x (((pz 1 2 r q) + 1 + ((0 : Nat) : Int)) % 2) hq hS u0 K fun mm => ?_
        have h := hK mm
        rw [if_pos ⟨u0.symm, t0⟩] at e1
        have e3 : scB 1 2 r q x = true := by rw [e2]; simp only [Bool.or_eq_true, decide_eq_true_eq]; exact .inl ⟨u0.symm, t0⟩
        rw [e1, e3, show (((q : Int) / 2 * (2 - 1) + ((0 : Nat) : Int)) * 2 + (q : Int) % 2) = (((q / 2 * 1 + 0) * 2 + q % 2 : Nat) : Int) by omega] at h
        exact h
      refine sec_2_x Y r q x (((pz 1 2 r q) + 1 + ((0 : Nat) : Int)) % 2) hq hS u0 K fun mm => ?_
      have h := hK mm
      rw [if_neg (fun k => u0 k.1.symm)] at e1
      have e3 : scB 1 2 r q x = false := by
        rw [e2]
        simp only [Bool.or_eq_false_iff, decide_eq_false_iff_not]
        exact ⟨fun k => u0 k.1.symm, trivial⟩
      rw [e1, e3] at h
      exact h
    · have e1 : scI 5 3 r q x = wF [(((q : Int) / 2 * (3 - 1) + ((0 : Nat) : Int)) * 2 + (q : Int) % 2, (((pz 5 3 r q) + 1 + ((0 : Nat) : Int)) % 3)), (((q : Int) / 2 * (3 - 1) + ((1 : Nat) : Int)) * 2 + (q : Int) % 2, (((pz 5 3 r q) + 1 + ((1 : Nat) : Int)) % 3))] x (r * (3 - 1)) := hc.1
      have e2 : scB 5 3 r q x = fF [(((q : Int) / 2 * (3 - 1) + ((0 : Nat) : Int)) * 2 + (q : Int) % 2, (((pz 5 3 r q) + 1 + ((0 : Nat) : Int)) % 3)), (((q : Int) / 2 * (3 - 1) + ((1 : Nat) : Int)) * 2 + (q : Int) % 2, (((pz 5 3 r q) + 1 + ((1 : Nat) : Int)) % 3))] x (r * (3 - 1)) := hc.2
      clear hc
      simp only [wF, fF] at e1 e2
      have t0 : ((q : Int) / 2 * (3 - 1) + ((0 : Nat) : Int)) * 2 + (q : Int) % 2 < r * (3 - 1) := by omega
      have t1 : ((q : Int) / 2 * (3 - 1) + ((1 : Nat) : Int)) * 2 + (q : Int) % 2 < r * (3 - 1) := by omega
      by_cases u0 : x = (((pz 5 3 r q) + 1 + ((0 : Nat) : Int)) % 3)
      · refine sec_3_0 Y r q x (((pz 5 3 r q) + 1 + ((0 : Nat) : Int)) % 3) (((pz 5 3 r q) + 1 + ((1 : Nat) : Int)) % 3) hq hS u0 K fun mm => ?_
        have h := hK mm
        rw [if_pos ⟨u0.symm, t0⟩] at e1
        have e3 : scB 5 3 r q x = true := by rw [e2]; simp only [Bool.or_eq_true, decide_eq_true_eq]; exact .inl ⟨u0.symm, t0⟩
        rw [e1, e3, show (((q : Int) / 2 * (3 - 1) + ((0 : Nat) : Int)) * 2 + (q : Int) % 2) = (((q / 2 * 2 + 0) * 2 + q % 2 : Nat) : Int) by omega] at h
        exact h
      by_cases u1 : x = (((pz 5 3 r q) + 1 + ((1 : Nat) : Int)) % 3)
      · refine sec_3_1 Y r q x (((pz 5 3 r q) + 1 + ((0 : Nat) : Int)) % 3) (((pz 5 3 r q) + 1 + ((1 : Nat) : Int)) % 3) hq hS u0 u1 K fun mm => ?_
        have h := hK mm
        rw [if_neg (fun k => u0 k.1.symm), if_pos ⟨u1.symm, t1⟩] at e1
        have e3 : scB 5 3 r q x = true := by rw [e2]; simp only [Bool.or_eq_true, decide_eq_true_eq]; exact .inr (.inl ⟨u1.symm, t1⟩)
        rw [e1, e3, show (((q : Int) / 2 * (3 - 1) + ((1 : Nat) : Int)) * 2 + (q : Int) % 2) = (((q / 2 * 2 + 1) * 2 + q % 2 : Nat) : Int) by omega] at h
        exact h
      refine sec_3_x Y r q x (((pz 5 3 r q) + 1 + ((0 : Nat) : Int)) % 3) (((pz 5 3 r q) + 1 + ((1 : Nat) : Int)) % 3) hq hS u0 u1 K fun mm => ?_
      have h := hK mm
      rw [if_neg (fun k => u0 k.1.symm), if_neg (fun k => u1 k.1.symm)] at e1
      have e3 : scB 5 3 r q x = false := by
        rw [e2]
        simp only [Bool.or_eq_false_iff, decide_eq_false_iff_not]
        exact ⟨fun k => u0 k.1.symm, ⟨fun k => u1 k.1.symm, trivial⟩⟩
      rw [e1, e3] at h
      exact h
    · have e1 : scI 5 4 r q x = wF [(((q : Int) / 2 * (4 - 1) + ((0 : Nat) : Int)) * 2 + (q : Int) % 2, (((pz 5 4 r q) + 1 + ((0 : Nat) : Int)) % 4)), (((q : Int) / 2 * (4 - 1) + ((1 : Nat) : Int)) * 2 + (q : Int) % 2, (((pz 5 4 r q) + 1 + ((1 : Nat) : Int)) % 4)), (((q : Int) / 2 * (4 - 1) + ((2 : Nat) : Int)) * 2 + (q : Int) % 2, (((pz 5 4 r q) + 1 + ((2 : Nat) : Int)) % 4))] x (r * (4 - 1)) := hc.1
      have e2 : scB 5 4 r q x = fF [(((q : Int) / 2 * (4 - 1) + ((0 : Nat) : Int)) * 2 + (q : Int) % 2, (((pz 5 4 r q) + 1 + ((0 : Nat) : Int)) % 4)), (((q : Int) / 2 * (4 - 1) + ((1 : Nat) : Int)) * 2 + (q : Int) % 2, (((pz 5 4 r q) + 1 + ((1 : Nat) : Int)) % 4)), (((q : Int) / 2 * (4 - 1) + ((2 : Nat) : Int)) * 2 + (q : Int) % 2, (((pz 5 4 r q) + 1 + ((2 : Nat) : Int)) % 4))] x (r * (4 - 1)) := hc.2
      clear hc
      simp only [wF, fF] at e1 e2
      have t0 : ((q : Int) / 2 * (4 - 1) + ((0 : Nat) : Int)) * 2 + (q : Int) % 2 < r * (4 - 1) := by omega
      have t1 : ((q : Int) / 2 * (4 - 1) + ((1 : Nat) : Int)) * 2 + (q : Int) % 2 < r * (4 - 1) := by omega
      have t2 : ((q : Int) / 2 * (4 - 1) + ((2 : Nat) : Int)) * 2 + (q : Int) % 2 < r * (4 - 1) := by omega
      by_cases u0 : x = (((pz 5 4 r q) + 1 + ((0 : Nat) : Int)) % 4)
      · refine sec_4_0 Y r q x (((pz 5 4 r q) + 1 + ((0 : Nat) : Int)) % 4) (((pz 5 4 r q) + 1 + ((1 : Nat) : Int)) % 4) (((pz 5 4 r q) + 1 + ((2 : Nat) : Int)) % 4) hq hS u0 K fun mm => ?_
        have h := hK mm
        rw [if_pos ⟨u0.symm, t0⟩] at e1
        have e3 : scB 5 4 r q x = true := by rw [e2]; simp only [Bool.or_eq_true, decide_eq_true_eq]; exact .inl ⟨u0.symm, t0⟩
        rw [e1, e3, show (((q : Int) / 2 * (4 - 1) + ((0 : Nat) : Int)) * 2 + (q : Int) % 2) = (((q / 2 * 3 + 0) * 2 + q % 2 : Nat) : Int) by omega] at h
        exact h
      by_cases u1 : x = (((pz 5 4 r q) + 1 + ((1 : Nat) : Int)) % 4)
      · refine sec_4_1 Y r q x (((pz 5 4 r q) + 1 + ((0 : Nat) : Int)) % 4) (((pz 5 4 r q) + 1 + ((1 : Nat) : Int)) % 4) (((pz 5 4 r q) + 1 + ((2 : Nat) : Int)) % 4) hq hS u0 u1 K fun mm => ?_
        have h := hK mm
        rw [if_neg (fun k => u0 k.1.symm), if_pos ⟨u1.symm, t1⟩] at e1
        have e3 : scB 5 4 r q x = true := by rw [e2]; simp only [Bool.or_eq_true, decide_eq_true_eq]; exact .inr (.inl ⟨u1.symm, t1⟩)
        rw [e1, e3, show (((q : Int) / 2 * (4 - 1) + ((1 : Nat) : Int)) * 2 + (q : Int) % 2) = (((q / 2 * 3 + 1) * 2 + q % 2 : Nat) : Int) by omega] at h
        exact h
      by_cases u2 : x = (((pz 5 4 r q) + 1 + ((2 : Nat) : Int)) % 4)
      · refine sec_4_2 Y r q x (((pz 5 4 r q) + 1 + ((0 : Nat) : Int)) % 4) (((pz 5 4 r q) + 1 + ((1 : Nat) : Int)) % 4) (((pz 5 4 r q) + 1 + ((2 : Nat) : Int)) % 4) hq hS u0 u1 u2 K fun mm => ?_
        have h := hK mm
        rw [if_neg (fun k => u0 k.1.symm), if_neg (fun k => u1 k.1.symm), if_pos ⟨u2.symm, t2⟩] at e1
        have e3 : scB 5 4 r q x = true := by rw [e2]; simp only [Bool.or_eq_true, decide_eq_true_eq]; exact .inr (.inr (.inl ⟨u2.symm, t2⟩))
        rw [e1, e3, show (((q : Int) / 2 * (4 - 1) + ((2 : Nat) : Int)) * 2 + (q : Int) % 2) = (((q / 2 * 3 + 2) * 2 + q % 2 : Nat) : Int) by omega] at h
        exact h
      refine sec_4_x Y r q x (((pz 5 4 r q) + 1 + ((0 : Nat) : Int)) % 4) (((pz 5 4 r q) + 1 + ((1 : Nat) : Int)) % 4) (((pz 5 4 r q) + 1 + ((2 : Nat) : Int)) % 4) hq hS u0 u1 u2 K fun mm => ?_
      have h := hK mm
      rw [if_neg (fun k => u0 k.1.symm), if_neg (fun k => u1 k.1.symm), if_neg (fun k => u2 k.1.symm)] at e1
      have e3 : scB 5 4 r q x = false := by
        rw [e2]
        simp only [Bool.or_eq_false_iff, decide_eq_false_iff_not]
        exact ⟨fun k => u0 k.1.symm, ⟨fun k => u1 k.1.symm, ⟨fun k => u2 k.1.symm, trivial⟩⟩⟩
      rw [e1, e3] at h
      exact h
theorem rows_walk (Y : Ys Prop) (l m r s x : Int) (K : V → Mem → Prop) (hK : ∀ mm, K (.bool true) mm) : body1 pA (callD pA tb0 la9 5) Y c4 [geo l m r, .int .i64 s, .int .i64 x] ⟨0, .leaf⟩ K := by
  cases o : roB l m r s with
  | false =>
    have z : pz l m r s = 0 := by rw [pz_eq, if_neg]; intro h; rw [ro_t.2 h] at o; cases o
    by_cases g : rgP l m r
    · refine rows_n2 Y l m r s x o z (S17_n o) (sc_n o).1 (sc_n o).2 (rg_t g) ?_ K hK
      by_cases h : s < 0
      · exact .inl h
      · refine .inr (Int.not_lt.1 fun k => ?_)
        rw [ro_t.2 ⟨g, by omega, k⟩] at o; cases o
    · exact rows_n1 Y l m r s x o z (S17_n o) (sc_n o).1 (sc_n o).2 (rg_f g) K hK
  | true =>
    have hS := S17_y o
    have hc := sc_y (x := x) o
    have pr := pz_rng o
    obtain ⟨g, sa, sb⟩ := ro_t.1 o
    have hz := szN_eq g
    have hN := hz.2
    have e : sz l m r = r * (m - 1) := by rw [sz_eq, if_pos g]
    rw [hz.1] at e
    have h15 := S15_y g
    have g' := g
    obtain ⟨h1, h2, h3, h4⟩ := g'
    obtain ⟨q, rfl⟩ := Int.eq_ofNat_of_zero_le sa
    have hq : q < 64 := by omega
    rcases h1 with ⟨rfl, rfl⟩ | ⟨rfl, rfl | rfl⟩
    · have hpz : pz 1 2 r q = 1 := by rw [pz_1 g sa sb]
      obtain ⟨ts, hts⟩ : ∃ ts : List (Int × Int), ts = [(((q : Int) / 2 * (2 - 1) + ((0 : Nat) : Int)) * 2 + (q : Int) % 2, (((pz 1 2 r q) + 1 + ((0 : Nat) : Int)) % 2))] := ⟨_, rfl⟩
      have e1 : scI 1 2 r q x = wF ts x (szN 2 r) := by rw [hc.1, hts, e]; rfl
      have e2 : scB 1 2 r q x = fF ts x (szN 2 r) := by rw [hc.2, hts, e]; rfl
      have z0 : ∀ y ∈ ts, (0 : Int) ≤ y.1 := by
        rw [hts]; simp only [List.forall_mem_cons, List.not_mem_nil, false_implies, implies_true, and_true]
        omega
      have L : LoopOk2 (callD pA tb0 la9 5) c4l0 (.exit 0) (memL 3 [(0, .cells [.int .i64 1, .int .i64 2, .int .i64 r] false), (1, .cells [.int .i64 (((pz 1 2 r q) + 1 + ((0 : Nat) : Int)) % 2)] false), (2, .cells (cellsF 1 2 (szN 2 r) 0) false)]) [(s1, .int .i64 ((q : Nat) : Int)), (s2, .int .i64 x), (s9, .slice 1 0 1 1 1), (s10, .int .i64 (wF ts x (szN 2 r))), (s11, .bool (fF ts x (szN 2 r))), (s12, .slice 2 0 (szN 2 r) (szN 2 r) 2), (s16, .int .i64 ((0 : Nat) : Int)), (s13, .int .i64 (kF ts ((0 : Nat) : Int))), (s14, .int .i64 (wF ts x ((0 : Nat) : Int))), (s15, .bool (fF ts x ((0 : Nat) : Int)))] (memL 3 [(0, .cells [.int .i64 1, .int .i64 2, .int .i64 r] false), (1, .cells [.int .i64 (((pz 1 2 r q) + 1 + ((0 : Nat) : Int)) % 2)] false), (2, .cells (cellsF 1 2 (szN 2 r) 0) false)]) [(s10, .int .i64 (wF ts x (szN 2 r))), (s11, .bool (fF ts x (szN 2 r))), (s14, .int .i64 (wF ts x (szN 2 r))), (s15, .bool (fF ts x (szN 2 r)))] :=
        loop2 (szN 2 r) (by unfold rounds; omega) (fun _ => (memL 3 [(0, .cells [.int .i64 1, .int .i64 2, .int .i64 r] false), (1, .cells [.int .i64 (((pz 1 2 r q) + 1 + ((0 : Nat) : Int)) % 2)] false), (2, .cells (cellsF 1 2 (szN 2 r) 0) false)])) (fun i => [(s1, .int .i64 ((q : Nat) : Int)), (s2, .int .i64 x), (s9, .slice 1 0 1 1 1), (s10, .int .i64 (wF ts x (szN 2 r))), (s11, .bool (fF ts x (szN 2 r))), (s12, .slice 2 0 (szN 2 r) (szN 2 r) 2), (s16, .int .i64 ((i : Nat) : Int)), (s13, .int .i64 (kF ts ((i : Nat) : Int))), (s14, .int .i64 (wF ts x ((i : Nat) : Int))), (s15, .bool (fF ts x ((i : Nat) : Int)))])
          (fun Y i T hi hT K hK => by
            have n0 := nth_row 1 2 (szN 2 r) 0 i hi
            have n1 := nth_mem 1 2 (szN 2 r) 0 i hi
            rw [Nat.zero_add] at n0 n1
            have hi2 : (i : Int) < r * (2 - 1) := by omega
            have c1 : ((i + 1 : Nat) : Int) = (i : Int) + 1 := by omega
            by_cases a : arF 2 i = q
            · rw [a] at n0
              have am : amF 1 2 i = (pz 1 2 r q + 1 + (i : Int) / 2 % (2 - 1)) % 2 := by
                unfold amF; rw [a, hpz]; rfl
              unfold arF at a
              have hd : (i : Int) / 2 % (2 - 1) = ((0 : Nat) : Int) := by omega
              rw [hd] at am
              rw [am] at n1
              have ti : ((q : Int) / 2 * (2 - 1) + ((0 : Nat) : Int)) * 2 + (q : Int) % 2 = (i : Int) := by omega
              have sp : ts = [] ++ ((i : Int), (((pz 1 2 r q) + 1 + ((0 : Nat) : Int)) % 2)) :: [] := by rw [hts, ← ti]; rfl
              have k1 : kF ts (i : Int) = 0 := by rw [sp, kF_pre _ _ _ (by intro y hy; cases hy), kF_post _ _ (by simp only [List.forall_mem_cons, List.not_mem_nil, false_implies, implies_true, and_true]; omega)]; rfl
              have k2 : kF ts ((i : Int) + 1) = 1 := by
                rw [sp, show [] ++ ((i : Int), (((pz 1 2 r q) + 1 + ((0 : Nat) : Int)) % 2)) :: [] = ([] ++ [((i : Int), (((pz 1 2 r q) + 1 + ((0 : Nat) : Int)) % 2))]) ++ [] from rfl, kF_pre _ _ _ (by simp only [List.cons_append, List.nil_append, List.forall_mem_cons, List.not_mem_nil, false_implies, implies_true, and_true]; omega), kF_post _ _ (by intro y hy; cases hy)]; rfl
              by_cases u : (((pz 1 2 r q) + 1 + ((0 : Nat) : Int)) % 2) = x
              · have h3 : wF ts x ((i : Int) + 1) = (i : Int) ∧ fF ts x ((i : Int) + 1) = true := by
                  rw [sp, u]
                  exact wf_hit _ _ _ _ (by intro y hy; cases hy)
                refine rows_2_e0 Y r x (wF ts x (szN 2 r)) (wF ts x (i : Int)) 0 0 (((pz 1 2 r q) + 1 + ((0 : Nat) : Int)) % 2) (fF ts x (szN 2 r)) (fF ts x (i : Int)) q (szN 2 r) i _ hi hN n0 n1 u T ?_ K ?_
                · have hT' := hT; rw [k1] at hT'; exact hT'
                · intro T' hT'; refine hK T' ?_; simp only [c1, k2, h3.1, h3.2] at hT' ⊢; exact hT'
              · have h3 : wF ts x ((i : Int) + 1) = wF ts x (i : Int) ∧ fF ts x ((i : Int) + 1) = fF ts x (i : Int) := by
                  refine wf_same ts x i ?_
                  rw [hts]; simp only [List.forall_mem_cons, List.not_mem_nil, false_implies, implies_true, and_true]
                  omega
                refine rows_2_n0 Y r x (wF ts x (szN 2 r)) (wF ts x (i : Int)) 0 0 (((pz 1 2 r q) + 1 + ((0 : Nat) : Int)) % 2) (fF ts x (szN 2 r)) (fF ts x (i : Int)) q (szN 2 r) i _ hi hN n0 n1 u T ?_ K ?_
                · have hT' := hT; rw [k1] at hT'; exact hT'
                · intro T' hT'; refine hK T' ?_; simp only [c1, k2, h3.1, h3.2] at hT' ⊢; exact hT'
            · have k1 : kF ts ((i : Int) + 1) = kF ts (i : Int) := kF_same ts i (by
                rw [hts]; unfold arF at a; simp only [List.forall_mem_cons, List.not_mem_nil, false_implies, implies_true, and_true]; omega)
              have h3 : wF ts x ((i : Int) + 1) = wF ts x (i : Int) ∧ fF ts x ((i : Int) + 1) = fF ts x (i : Int) := by
                refine wf_same ts x i ?_
                rw [hts]; unfold arF at a; simp only [List.forall_mem_cons, List.not_mem_nil, false_implies, implies_true, and_true]
                omega
              refine rows_2_a Y r x (wF ts x (szN 2 r)) (wF ts x (i : Int)) (kF ts (i : Int)) _ (((pz 1 2 r q) + 1 + ((0 : Nat) : Int)) % 2) (fF ts x (szN 2 r)) (fF ts x (i : Int)) q (szN 2 r) i _ hi hN n0 a T hT K ?_
              intro T' hT'; refine hK T' ?_; simp only [c1, k1, h3.1, h3.2] at hT' ⊢; exact hT')
          (fun Y T hT K hK => rows_2_f Y r x (wF ts x (szN 2 r)) (wF ts x (szN 2 r)) (kF ts (szN 2 r)) (((pz 1 2 r q) + 1 + ((0 : Nat) : Int)) % 2) (fF ts x (szN 2 r)) (fF ts x (szN 2 r)) q (szN 2 r) _ hN T hT K hK)
      rw [show (((0 : Nat) : Int)) = 0 from rfl, kF_post ts 0 z0, (wf_zero ts x z0).1, (wf_zero ts x z0).2] at L
      exact rows_2_y Y r x _ (((pz 1 2 r q) + 1 + ((0 : Nat) : Int)) % 2) _ q (szN 2 r) _ (rg_t g) sb o hN hpz (R19_1 g sa (by omega)) hS e1 e2 h15 L K hK
    · have hpz : pz 5 3 r q = 2 - (q : Int) / 2 % 3 := by rw [pz_5 g sa sb]; rfl
      obtain ⟨ts, hts⟩ : ∃ ts : List (Int × Int), ts = [(((q : Int) / 2 * (3 - 1) + ((0 : Nat) : Int)) * 2 + (q : Int) % 2, (((pz 5 3 r q) + 1 + ((0 : Nat) : Int)) % 3)), (((q : Int) / 2 * (3 - 1) + ((1 : Nat) : Int)) * 2 + (q : Int) % 2, (((pz 5 3 r q) + 1 + ((1 : Nat) : Int)) % 3))] := ⟨_, rfl⟩
      have e1 : scI 5 3 r q x = wF ts x (szN 3 r) := by rw [hc.1, hts, e]; rfl
      have e2 : scB 5 3 r q x = fF ts x (szN 3 r) := by rw [hc.2, hts, e]; rfl
      have z0 : ∀ y ∈ ts, (0 : Int) ≤ y.1 := by
        rw [hts]; simp only [List.forall_mem_cons, List.not_mem_nil, false_implies, implies_true, and_true]
        omega
      have L : LoopOk2 (callD pA tb0 la9 5) c4l0 (.exit 0) (memL 3 [(0, .cells [.int .i64 5, .int .i64 3, .int .i64 r] false), (1, .cells [.int .i64 (((pz 5 3 r q) + 1 + ((0 : Nat) : Int)) % 3), .int .i64 (((pz 5 3 r q) + 1 + ((1 : Nat) : Int)) % 3)] false), (2, .cells (cellsF 5 3 (szN 3 r) 0) false)]) [(s1, .int .i64 ((q : Nat) : Int)), (s2, .int .i64 x), (s9, .slice 1 0 2 2 1), (s10, .int .i64 (wF ts x (szN 3 r))), (s11, .bool (fF ts x (szN 3 r))), (s12, .slice 2 0 (szN 3 r) (szN 3 r) 2), (s16, .int .i64 ((0 : Nat) : Int)), (s13, .int .i64 (kF ts ((0 : Nat) : Int))), (s14, .int .i64 (wF ts x ((0 : Nat) : Int))), (s15, .bool (fF ts x ((0 : Nat) : Int)))] (memL 3 [(0, .cells [.int .i64 5, .int .i64 3, .int .i64 r] false), (1, .cells [.int .i64 (((pz 5 3 r q) + 1 + ((0 : Nat) : Int)) % 3), .int .i64 (((pz 5 3 r q) + 1 + ((1 : Nat) : Int)) % 3)] false), (2, .cells (cellsF 5 3 (szN 3 r) 0) false)]) [(s10, .int .i64 (wF ts x (szN 3 r))), (s11, .bool (fF ts x (szN 3 r))), (s14, .int .i64 (wF ts x (szN 3 r))), (s15, .bool (fF ts x (szN 3 r)))] :=
        loop2 (szN 3 r) (by unfold rounds; omega) (fun _ => (memL 3 [(0, .cells [.int .i64 5, .int .i64 3, .int .i64 r] false), (1, .cells [.int .i64 (((pz 5 3 r q) + 1 + ((0 : Nat) : Int)) % 3), .int .i64 (((pz 5 3 r q) + 1 + ((1 : Nat) : Int)) % 3)] false), (2, .cells (cellsF 5 3 (szN 3 r) 0) false)])) (fun i => [(s1, .int .i64 ((q : Nat) : Int)), (s2, .int .i64 x), (s9, .slice 1 0 2 2 1), (s10, .int .i64 (wF ts x (szN 3 r))), (s11, .bool (fF ts x (szN 3 r))), (s12, .slice 2 0 (szN 3 r) (szN 3 r) 2), (s16, .int .i64 ((i : Nat) : Int)), (s13, .int .i64 (kF ts ((i : Nat) : Int))), (s14, .int .i64 (wF ts x ((i : Nat) : Int))), (s15, .bool (fF ts x ((i : Nat) : Int)))])
          (fun Y i T hi hT K hK => by
            have n0 := nth_row 5 3 (szN 3 r) 0 i hi
            have n1 := nth_mem 5 3 (szN 3 r) 0 i hi
            rw [Nat.zero_add] at n0 n1
            have hi2 : (i : Int) < r * (3 - 1) := by omega
            have c1 : ((i + 1 : Nat) : Int) = (i : Int) + 1 := by omega
            by_cases a : arF 3 i = q
            · rw [a] at n0
              have am : amF 5 3 i = (pz 5 3 r q + 1 + (i : Int) / 2 % (3 - 1)) % 3 := by
                unfold amF; rw [a, hpz]; rfl
              unfold arF at a
              have hd : (i : Int) / 2 % (3 - 1) = ((0 : Nat) : Int) ∨ (i : Int) / 2 % (3 - 1) = ((1 : Nat) : Int) := by omega
              rcases hd with hd | hd
              · rw [hd] at am
                rw [am] at n1
                have ti : ((q : Int) / 2 * (3 - 1) + ((0 : Nat) : Int)) * 2 + (q : Int) % 2 = (i : Int) := by omega
                have sp : ts = [] ++ ((i : Int), (((pz 5 3 r q) + 1 + ((0 : Nat) : Int)) % 3)) :: [(((q : Int) / 2 * (3 - 1) + ((1 : Nat) : Int)) * 2 + (q : Int) % 2, (((pz 5 3 r q) + 1 + ((1 : Nat) : Int)) % 3))] := by rw [hts, ← ti]; rfl
                have k1 : kF ts (i : Int) = 0 := by rw [sp, kF_pre _ _ _ (by intro y hy; cases hy), kF_post _ _ (by simp only [List.forall_mem_cons, List.not_mem_nil, false_implies, implies_true, and_true]; omega)]; rfl
                have k2 : kF ts ((i : Int) + 1) = 1 := by
                  rw [sp, show [] ++ ((i : Int), (((pz 5 3 r q) + 1 + ((0 : Nat) : Int)) % 3)) :: [(((q : Int) / 2 * (3 - 1) + ((1 : Nat) : Int)) * 2 + (q : Int) % 2, (((pz 5 3 r q) + 1 + ((1 : Nat) : Int)) % 3))] = ([] ++ [((i : Int), (((pz 5 3 r q) + 1 + ((0 : Nat) : Int)) % 3))]) ++ [(((q : Int) / 2 * (3 - 1) + ((1 : Nat) : Int)) * 2 + (q : Int) % 2, (((pz 5 3 r q) + 1 + ((1 : Nat) : Int)) % 3))] from rfl, kF_pre _ _ _ (by simp only [List.cons_append, List.nil_append, List.forall_mem_cons, List.not_mem_nil, false_implies, implies_true, and_true]; omega), kF_post _ _ (by simp only [List.forall_mem_cons, List.not_mem_nil, false_implies, implies_true, and_true]; omega)]; rfl
                by_cases u : (((pz 5 3 r q) + 1 + ((0 : Nat) : Int)) % 3) = x
                · have h3 : wF ts x ((i : Int) + 1) = (i : Int) ∧ fF ts x ((i : Int) + 1) = true := by
                    rw [sp, u]
                    exact wf_hit _ _ _ _ (by intro y hy; cases hy)
                  refine rows_3_e0 Y r x (wF ts x (szN 3 r)) (wF ts x (i : Int)) 0 0 (((pz 5 3 r q) + 1 + ((0 : Nat) : Int)) % 3) (((pz 5 3 r q) + 1 + ((1 : Nat) : Int)) % 3) (fF ts x (szN 3 r)) (fF ts x (i : Int)) q (szN 3 r) i _ hi hN n0 n1 u T ?_ K ?_
                  · have hT' := hT; rw [k1] at hT'; exact hT'
                  · intro T' hT'; refine hK T' ?_; simp only [c1, k2, h3.1, h3.2] at hT' ⊢; exact hT'
                · have h3 : wF ts x ((i : Int) + 1) = wF ts x (i : Int) ∧ fF ts x ((i : Int) + 1) = fF ts x (i : Int) := by
                    refine wf_same ts x i ?_
                    rw [hts]; simp only [List.forall_mem_cons, List.not_mem_nil, false_implies, implies_true, and_true]
                    omega
                  refine rows_3_n0 Y r x (wF ts x (szN 3 r)) (wF ts x (i : Int)) 0 0 (((pz 5 3 r q) + 1 + ((0 : Nat) : Int)) % 3) (((pz 5 3 r q) + 1 + ((1 : Nat) : Int)) % 3) (fF ts x (szN 3 r)) (fF ts x (i : Int)) q (szN 3 r) i _ hi hN n0 n1 u T ?_ K ?_
                  · have hT' := hT; rw [k1] at hT'; exact hT'
                  · intro T' hT'; refine hK T' ?_; simp only [c1, k2, h3.1, h3.2] at hT' ⊢; exact hT'
              · rw [hd] at am
                rw [am] at n1
                have ti : ((q : Int) / 2 * (3 - 1) + ((1 : Nat) : Int)) * 2 + (q : Int) % 2 = (i : Int) := by omega
                have sp : ts = [(((q : Int) / 2 * (3 - 1) + ((0 : Nat) : Int)) * 2 + (q : Int) % 2, (((pz 5 3 r q) + 1 + ((0 : Nat) : Int)) % 3))] ++ ((i : Int), (((pz 5 3 r q) + 1 + ((1 : Nat) : Int)) % 3)) :: [] := by rw [hts, ← ti]; rfl
                have k1 : kF ts (i : Int) = 1 := by rw [sp, kF_pre _ _ _ (by simp only [List.forall_mem_cons, List.not_mem_nil, false_implies, implies_true, and_true]; omega), kF_post _ _ (by simp only [List.forall_mem_cons, List.not_mem_nil, false_implies, implies_true, and_true]; omega)]; rfl
                have k2 : kF ts ((i : Int) + 1) = 2 := by
                  rw [sp, show [(((q : Int) / 2 * (3 - 1) + ((0 : Nat) : Int)) * 2 + (q : Int) % 2, (((pz 5 3 r q) + 1 + ((0 : Nat) : Int)) % 3))] ++ ((i : Int), (((pz 5 3 r q) + 1 + ((1 : Nat) : Int)) % 3)) :: [] = ([(((q : Int) / 2 * (3 - 1) + ((0 : Nat) : Int)) * 2 + (q : Int) % 2, (((pz 5 3 r q) + 1 + ((0 : Nat) : Int)) % 3))] ++ [((i : Int), (((pz 5 3 r q) + 1 + ((1 : Nat) : Int)) % 3))]) ++ [] from rfl, kF_pre _ _ _ (by simp only [List.cons_append, List.nil_append, List.forall_mem_cons, List.not_mem_nil, false_implies, implies_true, and_true]; omega), kF_post _ _ (by intro y hy; cases hy)]; rfl
                by_cases u : (((pz 5 3 r q) + 1 + ((1 : Nat) : Int)) % 3) = x
                · have h3 : wF ts x ((i : Int) + 1) = (i : Int) ∧ fF ts x ((i : Int) + 1) = true := by
                    rw [sp, u]
                    exact wf_hit _ _ _ _ (by rw [← u]; simp only [List.forall_mem_cons, List.not_mem_nil, false_implies, implies_true, and_true]; omega)
                  refine rows_3_e1 Y r x (wF ts x (szN 3 r)) (wF ts x (i : Int)) 0 0 (((pz 5 3 r q) + 1 + ((0 : Nat) : Int)) % 3) (((pz 5 3 r q) + 1 + ((1 : Nat) : Int)) % 3) (fF ts x (szN 3 r)) (fF ts x (i : Int)) q (szN 3 r) i _ hi hN n0 n1 u T ?_ K ?_
                  · have hT' := hT; rw [k1] at hT'; exact hT'
                  · intro T' hT'; refine hK T' ?_; simp only [c1, k2, h3.1, h3.2] at hT' ⊢; exact hT'
                · have h3 : wF ts x ((i : Int) + 1) = wF ts x (i : Int) ∧ fF ts x ((i : Int) + 1) = fF ts x (i : Int) := by
                    refine wf_same ts x i ?_
                    rw [hts]; simp only [List.forall_mem_cons, List.not_mem_nil, false_implies, implies_true, and_true]
                    omega
                  refine rows_3_n1 Y r x (wF ts x (szN 3 r)) (wF ts x (i : Int)) 0 0 (((pz 5 3 r q) + 1 + ((0 : Nat) : Int)) % 3) (((pz 5 3 r q) + 1 + ((1 : Nat) : Int)) % 3) (fF ts x (szN 3 r)) (fF ts x (i : Int)) q (szN 3 r) i _ hi hN n0 n1 u T ?_ K ?_
                  · have hT' := hT; rw [k1] at hT'; exact hT'
                  · intro T' hT'; refine hK T' ?_; simp only [c1, k2, h3.1, h3.2] at hT' ⊢; exact hT'
            · have k1 : kF ts ((i : Int) + 1) = kF ts (i : Int) := kF_same ts i (by
                rw [hts]; unfold arF at a; simp only [List.forall_mem_cons, List.not_mem_nil, false_implies, implies_true, and_true]; omega)
              have h3 : wF ts x ((i : Int) + 1) = wF ts x (i : Int) ∧ fF ts x ((i : Int) + 1) = fF ts x (i : Int) := by
                refine wf_same ts x i ?_
                rw [hts]; unfold arF at a; simp only [List.forall_mem_cons, List.not_mem_nil, false_implies, implies_true, and_true]
                omega
              refine rows_3_a Y r x (wF ts x (szN 3 r)) (wF ts x (i : Int)) (kF ts (i : Int)) _ (((pz 5 3 r q) + 1 + ((0 : Nat) : Int)) % 3) (((pz 5 3 r q) + 1 + ((1 : Nat) : Int)) % 3) (fF ts x (szN 3 r)) (fF ts x (i : Int)) q (szN 3 r) i _ hi hN n0 a T hT K ?_
              intro T' hT'; refine hK T' ?_; simp only [c1, k1, h3.1, h3.2] at hT' ⊢; exact hT')
          (fun Y T hT K hK => rows_3_f Y r x (wF ts x (szN 3 r)) (wF ts x (szN 3 r)) (kF ts (szN 3 r)) (((pz 5 3 r q) + 1 + ((0 : Nat) : Int)) % 3) (((pz 5 3 r q) + 1 + ((1 : Nat) : Int)) % 3) (fF ts x (szN 3 r)) (fF ts x (szN 3 r)) q (szN 3 r) _ hN T hT K hK)
      rw [show (((0 : Nat) : Int)) = 0 from rfl, kF_post ts 0 z0, (wf_zero ts x z0).1, (wf_zero ts x z0).2] at L
      exact rows_3_y Y r x _ (((pz 5 3 r q) + 1 + ((0 : Nat) : Int)) % 3) (((pz 5 3 r q) + 1 + ((1 : Nat) : Int)) % 3) _ q (szN 3 r) _ (rg_t g) sb o hN hpz (R19_5 rfl g sa (by omega)) hS e1 e2 h15 L K hK
    · have hpz : pz 5 4 r q = 3 - (q : Int) / 2 % 4 := by rw [pz_5 g sa sb]; rfl
      obtain ⟨ts, hts⟩ : ∃ ts : List (Int × Int), ts = [(((q : Int) / 2 * (4 - 1) + ((0 : Nat) : Int)) * 2 + (q : Int) % 2, (((pz 5 4 r q) + 1 + ((0 : Nat) : Int)) % 4)), (((q : Int) / 2 * (4 - 1) + ((1 : Nat) : Int)) * 2 + (q : Int) % 2, (((pz 5 4 r q) + 1 + ((1 : Nat) : Int)) % 4)), (((q : Int) / 2 * (4 - 1) + ((2 : Nat) : Int)) * 2 + (q : Int) % 2, (((pz 5 4 r q) + 1 + ((2 : Nat) : Int)) % 4))] := ⟨_, rfl⟩
      have e1 : scI 5 4 r q x = wF ts x (szN 4 r) := by rw [hc.1, hts, e]; rfl
      have e2 : scB 5 4 r q x = fF ts x (szN 4 r) := by rw [hc.2, hts, e]; rfl
      have z0 : ∀ y ∈ ts, (0 : Int) ≤ y.1 := by
        rw [hts]; simp only [List.forall_mem_cons, List.not_mem_nil, false_implies, implies_true, and_true]
        omega
      have L : LoopOk2 (callD pA tb0 la9 5) c4l0 (.exit 0) (memL 3 [(0, .cells [.int .i64 5, .int .i64 4, .int .i64 r] false), (1, .cells [.int .i64 (((pz 5 4 r q) + 1 + ((0 : Nat) : Int)) % 4), .int .i64 (((pz 5 4 r q) + 1 + ((1 : Nat) : Int)) % 4), .int .i64 (((pz 5 4 r q) + 1 + ((2 : Nat) : Int)) % 4)] false), (2, .cells (cellsF 5 4 (szN 4 r) 0) false)]) [(s1, .int .i64 ((q : Nat) : Int)), (s2, .int .i64 x), (s9, .slice 1 0 3 3 1), (s10, .int .i64 (wF ts x (szN 4 r))), (s11, .bool (fF ts x (szN 4 r))), (s12, .slice 2 0 (szN 4 r) (szN 4 r) 2), (s16, .int .i64 ((0 : Nat) : Int)), (s13, .int .i64 (kF ts ((0 : Nat) : Int))), (s14, .int .i64 (wF ts x ((0 : Nat) : Int))), (s15, .bool (fF ts x ((0 : Nat) : Int)))] (memL 3 [(0, .cells [.int .i64 5, .int .i64 4, .int .i64 r] false), (1, .cells [.int .i64 (((pz 5 4 r q) + 1 + ((0 : Nat) : Int)) % 4), .int .i64 (((pz 5 4 r q) + 1 + ((1 : Nat) : Int)) % 4), .int .i64 (((pz 5 4 r q) + 1 + ((2 : Nat) : Int)) % 4)] false), (2, .cells (cellsF 5 4 (szN 4 r) 0) false)]) [(s10, .int .i64 (wF ts x (szN 4 r))), (s11, .bool (fF ts x (szN 4 r))), (s14, .int .i64 (wF ts x (szN 4 r))), (s15, .bool (fF ts x (szN 4 r)))] :=
        loop2 (szN 4 r) (by unfold rounds; omega) (fun _ => (memL 3 [(0, .cells [.int .i64 5, .int .i64 4, .int .i64 r] false), (1, .cells [.int .i64 (((pz 5 4 r q) + 1 + ((0 : Nat) : Int)) % 4), .int .i64 (((pz 5 4 r q) + 1 + ((1 : Nat) : Int)) % 4), .int .i64 (((pz 5 4 r q) + 1 + ((2 : Nat) : Int)) % 4)] false), (2, .cells (cellsF 5 4 (szN 4 r) 0) false)])) (fun i => [(s1, .int .i64 ((q : Nat) : Int)), (s2, .int .i64 x), (s9, .slice 1 0 3 3 1), (s10, .int .i64 (wF ts x (szN 4 r))), (s11, .bool (fF ts x (szN 4 r))), (s12, .slice 2 0 (szN 4 r) (szN 4 r) 2), (s16, .int .i64 ((i : Nat) : Int)), (s13, .int .i64 (kF ts ((i : Nat) : Int))), (s14, .int .i64 (wF ts x ((i : Nat) : Int))), (s15, .bool (fF ts x ((i : Nat) : Int)))])
          (fun Y i T hi hT K hK => by
            have n0 := nth_row 5 4 (szN 4 r) 0 i hi
            have n1 := nth_mem 5 4 (szN 4 r) 0 i hi
            rw [Nat.zero_add] at n0 n1
            have hi2 : (i : Int) < r * (4 - 1) := by omega
            have c1 : ((i + 1 : Nat) : Int) = (i : Int) + 1 := by omega
            by_cases a : arF 4 i = q
            · rw [a] at n0
              have am : amF 5 4 i = (pz 5 4 r q + 1 + (i : Int) / 2 % (4 - 1)) % 4 := by
                unfold amF; rw [a, hpz]; rfl
              unfold arF at a
              have hd : (i : Int) / 2 % (4 - 1) = ((0 : Nat) : Int) ∨ (i : Int) / 2 % (4 - 1) = ((1 : Nat) : Int) ∨ (i : Int) / 2 % (4 - 1) = ((2 : Nat) : Int) := by omega
              rcases hd with hd | hd | hd
              · rw [hd] at am
                rw [am] at n1
                have ti : ((q : Int) / 2 * (4 - 1) + ((0 : Nat) : Int)) * 2 + (q : Int) % 2 = (i : Int) := by omega
                have sp : ts = [] ++ ((i : Int), (((pz 5 4 r q) + 1 + ((0 : Nat) : Int)) % 4)) :: [(((q : Int) / 2 * (4 - 1) + ((1 : Nat) : Int)) * 2 + (q : Int) % 2, (((pz 5 4 r q) + 1 + ((1 : Nat) : Int)) % 4)), (((q : Int) / 2 * (4 - 1) + ((2 : Nat) : Int)) * 2 + (q : Int) % 2, (((pz 5 4 r q) + 1 + ((2 : Nat) : Int)) % 4))] := by rw [hts, ← ti]; rfl
                have k1 : kF ts (i : Int) = 0 := by rw [sp, kF_pre _ _ _ (by intro y hy; cases hy), kF_post _ _ (by simp only [List.forall_mem_cons, List.not_mem_nil, false_implies, implies_true, and_true]; omega)]; rfl
                have k2 : kF ts ((i : Int) + 1) = 1 := by
                  rw [sp, show [] ++ ((i : Int), (((pz 5 4 r q) + 1 + ((0 : Nat) : Int)) % 4)) :: [(((q : Int) / 2 * (4 - 1) + ((1 : Nat) : Int)) * 2 + (q : Int) % 2, (((pz 5 4 r q) + 1 + ((1 : Nat) : Int)) % 4)), (((q : Int) / 2 * (4 - 1) + ((2 : Nat) : Int)) * 2 + (q : Int) % 2, (((pz 5 4 r q) + 1 + ((2 : Nat) : Int)) % 4))] = ([] ++ [((i : Int), (((pz 5 4 r q) + 1 + ((0 : Nat) : Int)) % 4))]) ++ [(((q : Int) / 2 * (4 - 1) + ((1 : Nat) : Int)) * 2 + (q : Int) % 2, (((pz 5 4 r q) + 1 + ((1 : Nat) : Int)) % 4)), (((q : Int) / 2 * (4 - 1) + ((2 : Nat) : Int)) * 2 + (q : Int) % 2, (((pz 5 4 r q) + 1 + ((2 : Nat) : Int)) % 4))] from rfl, kF_pre _ _ _ (by simp only [List.cons_append, List.nil_append, List.forall_mem_cons, List.not_mem_nil, false_implies, implies_true, and_true]; omega), kF_post _ _ (by simp only [List.forall_mem_cons, List.not_mem_nil, false_implies, implies_true, and_true]; omega)]; rfl
                by_cases u : (((pz 5 4 r q) + 1 + ((0 : Nat) : Int)) % 4) = x
                · have h3 : wF ts x ((i : Int) + 1) = (i : Int) ∧ fF ts x ((i : Int) + 1) = true := by
                    rw [sp, u]
                    exact wf_hit _ _ _ _ (by intro y hy; cases hy)
                  refine rows_4_e0 Y r x (wF ts x (szN 4 r)) (wF ts x (i : Int)) 0 0 (((pz 5 4 r q) + 1 + ((0 : Nat) : Int)) % 4) (((pz 5 4 r q) + 1 + ((1 : Nat) : Int)) % 4) (((pz 5 4 r q) + 1 + ((2 : Nat) : Int)) % 4) (fF ts x (szN 4 r)) (fF ts x (i : Int)) q (szN 4 r) i _ hi hN n0 n1 u T ?_ K ?_
                  · have hT' := hT; rw [k1] at hT'; exact hT'
                  · intro T' hT'; refine hK T' ?_; simp only [c1, k2, h3.1, h3.2] at hT' ⊢; exact hT'
                · have h3 : wF ts x ((i : Int) + 1) = wF ts x (i : Int) ∧ fF ts x ((i : Int) + 1) = fF ts x (i : Int) := by
                    refine wf_same ts x i ?_
                    rw [hts]; simp only [List.forall_mem_cons, List.not_mem_nil, false_implies, implies_true, and_true]
                    omega
                  refine rows_4_n0 Y r x (wF ts x (szN 4 r)) (wF ts x (i : Int)) 0 0 (((pz 5 4 r q) + 1 + ((0 : Nat) : Int)) % 4) (((pz 5 4 r q) + 1 + ((1 : Nat) : Int)) % 4) (((pz 5 4 r q) + 1 + ((2 : Nat) : Int)) % 4) (fF ts x (szN 4 r)) (fF ts x (i : Int)) q (szN 4 r) i _ hi hN n0 n1 u T ?_ K ?_
                  · have hT' := hT; rw [k1] at hT'; exact hT'
                  · intro T' hT'; refine hK T' ?_; simp only [c1, k2, h3.1, h3.2] at hT' ⊢; exact hT'
              · rw [hd] at am
                rw [am] at n1
                have ti : ((q : Int) / 2 * (4 - 1) + ((1 : Nat) : Int)) * 2 + (q : Int) % 2 = (i : Int) := by omega
                have sp : ts = [(((q : Int) / 2 * (4 - 1) + ((0 : Nat) : Int)) * 2 + (q : Int) % 2, (((pz 5 4 r q) + 1 + ((0 : Nat) : Int)) % 4))] ++ ((i : Int), (((pz 5 4 r q) + 1 + ((1 : Nat) : Int)) % 4)) :: [(((q : Int) / 2 * (4 - 1) + ((2 : Nat) : Int)) * 2 + (q : Int) % 2, (((pz 5 4 r q) + 1 + ((2 : Nat) : Int)) % 4))] := by rw [hts, ← ti]; rfl
                have k1 : kF ts (i : Int) = 1 := by rw [sp, kF_pre _ _ _ (by simp only [List.forall_mem_cons, List.not_mem_nil, false_implies, implies_true, and_true]; omega), kF_post _ _ (by simp only [List.forall_mem_cons, List.not_mem_nil, false_implies, implies_true, and_true]; omega)]; rfl
                have k2 : kF ts ((i : Int) + 1) = 2 := by
                  rw [sp, show [(((q : Int) / 2 * (4 - 1) + ((0 : Nat) : Int)) * 2 + (q : Int) % 2, (((pz 5 4 r q) + 1 + ((0 : Nat) : Int)) % 4))] ++ ((i : Int), (((pz 5 4 r q) + 1 + ((1 : Nat) : Int)) % 4)) :: [(((q : Int) / 2 * (4 - 1) + ((2 : Nat) : Int)) * 2 + (q : Int) % 2, (((pz 5 4 r q) + 1 + ((2 : Nat) : Int)) % 4))] = ([(((q : Int) / 2 * (4 - 1) + ((0 : Nat) : Int)) * 2 + (q : Int) % 2, (((pz 5 4 r q) + 1 + ((0 : Nat) : Int)) % 4))] ++ [((i : Int), (((pz 5 4 r q) + 1 + ((1 : Nat) : Int)) % 4))]) ++ [(((q : Int) / 2 * (4 - 1) + ((2 : Nat) : Int)) * 2 + (q : Int) % 2, (((pz 5 4 r q) + 1 + ((2 : Nat) : Int)) % 4))] from rfl, kF_pre _ _ _ (by simp only [List.cons_append, List.nil_append, List.forall_mem_cons, List.not_mem_nil, false_implies, implies_true, and_true]; omega), kF_post _ _ (by simp only [List.forall_mem_cons, List.not_mem_nil, false_implies, implies_true, and_true]; omega)]; rfl
                by_cases u : (((pz 5 4 r q) + 1 + ((1 : Nat) : Int)) % 4) = x
                · have h3 : wF ts x ((i : Int) + 1) = (i : Int) ∧ fF ts x ((i : Int) + 1) = true := by
                    rw [sp, u]
                    exact wf_hit _ _ _ _ (by rw [← u]; simp only [List.forall_mem_cons, List.not_mem_nil, false_implies, implies_true, and_true]; omega)
                  refine rows_4_e1 Y r x (wF ts x (szN 4 r)) (wF ts x (i : Int)) 0 0 (((pz 5 4 r q) + 1 + ((0 : Nat) : Int)) % 4) (((pz 5 4 r q) + 1 + ((1 : Nat) : Int)) % 4) (((pz 5 4 r q) + 1 + ((2 : Nat) : Int)) % 4) (fF ts x (szN 4 r)) (fF ts x (i : Int)) q (szN 4 r) i _ hi hN n0 n1 u T ?_ K ?_
                  · have hT' := hT; rw [k1] at hT'; exact hT'
                  · intro T' hT'; refine hK T' ?_; simp only [c1, k2, h3.1, h3.2] at hT' ⊢; exact hT'
                · have h3 : wF ts x ((i : Int) + 1) = wF ts x (i : Int) ∧ fF ts x ((i : Int) + 1) = fF ts x (i : Int) := by
                    refine wf_same ts x i ?_
                    rw [hts]; simp only [List.forall_mem_cons, List.not_mem_nil, false_implies, implies_true, and_true]
                    omega
                  refine rows_4_n1 Y r x (wF ts x (szN 4 r)) (wF ts x (i : Int)) 0 0 (((pz 5 4 r q) + 1 + ((0 : Nat) : Int)) % 4) (((pz 5 4 r q) + 1 + ((1 : Nat) : Int)) % 4) (((pz 5 4 r q) + 1 + ((2 : Nat) : Int)) % 4) (fF ts x (szN 4 r)) (fF ts x (i : Int)) q (szN 4 r) i _ hi hN n0 n1 u T ?_ K ?_
                  · have hT' := hT; rw [k1] at hT'; exact hT'
                  · intro T' hT'; refine hK T' ?_; simp only [c1, k2, h3.1, h3.2] at hT' ⊢; exact hT'
              · rw [hd] at am
                rw [am] at n1
                have ti : ((q : Int) / 2 * (4 - 1) + ((2 : Nat) : Int)) * 2 + (q : Int) % 2 = (i : Int) := by omega
                have sp : ts = [(((q : Int) / 2 * (4 - 1) + ((0 : Nat) : Int)) * 2 + (q : Int) % 2, (((pz 5 4 r q) + 1 + ((0 : Nat) : Int)) % 4)), (((q : Int) / 2 * (4 - 1) + ((1 : Nat) : Int)) * 2 + (q : Int) % 2, (((pz 5 4 r q) + 1 + ((1 : Nat) : Int)) % 4))] ++ ((i : Int), (((pz 5 4 r q) + 1 + ((2 : Nat) : Int)) % 4)) :: [] := by rw [hts, ← ti]; rfl
                have k1 : kF ts (i : Int) = 2 := by rw [sp, kF_pre _ _ _ (by simp only [List.forall_mem_cons, List.not_mem_nil, false_implies, implies_true, and_true]; omega), kF_post _ _ (by simp only [List.forall_mem_cons, List.not_mem_nil, false_implies, implies_true, and_true]; omega)]; rfl
                have k2 : kF ts ((i : Int) + 1) = 3 := by
                  rw [sp, show [(((q : Int) / 2 * (4 - 1) + ((0 : Nat) : Int)) * 2 + (q : Int) % 2, (((pz 5 4 r q) + 1 + ((0 : Nat) : Int)) % 4)), (((q : Int) / 2 * (4 - 1) + ((1 : Nat) : Int)) * 2 + (q : Int) % 2, (((pz 5 4 r q) + 1 + ((1 : Nat) : Int)) % 4))] ++ ((i : Int), (((pz 5 4 r q) + 1 + ((2 : Nat) : Int)) % 4)) :: [] = ([(((q : Int) / 2 * (4 - 1) + ((0 : Nat) : Int)) * 2 + (q : Int) % 2, (((pz 5 4 r q) + 1 + ((0 : Nat) : Int)) % 4)), (((q : Int) / 2 * (4 - 1) + ((1 : Nat) : Int)) * 2 + (q : Int) % 2, (((pz 5 4 r q) + 1 + ((1 : Nat) : Int)) % 4))] ++ [((i : Int), (((pz 5 4 r q) + 1 + ((2 : Nat) : Int)) % 4))]) ++ [] from rfl, kF_pre _ _ _ (by simp only [List.cons_append, List.nil_append, List.forall_mem_cons, List.not_mem_nil, false_implies, implies_true, and_true]; omega), kF_post _ _ (by intro y hy; cases hy)]; rfl
                by_cases u : (((pz 5 4 r q) + 1 + ((2 : Nat) : Int)) % 4) = x
                · have h3 : wF ts x ((i : Int) + 1) = (i : Int) ∧ fF ts x ((i : Int) + 1) = true := by
                    rw [sp, u]
                    exact wf_hit _ _ _ _ (by rw [← u]; simp only [List.forall_mem_cons, List.not_mem_nil, false_implies, implies_true, and_true]; omega)
                  refine rows_4_e2 Y r x (wF ts x (szN 4 r)) (wF ts x (i : Int)) 0 0 (((pz 5 4 r q) + 1 + ((0 : Nat) : Int)) % 4) (((pz 5 4 r q) + 1 + ((1 : Nat) : Int)) % 4) (((pz 5 4 r q) + 1 + ((2 : Nat) : Int)) % 4) (fF ts x (szN 4 r)) (fF ts x (i : Int)) q (szN 4 r) i _ hi hN n0 n1 u T ?_ K ?_
                  · have hT' := hT; rw [k1] at hT'; exact hT'
                  · intro T' hT'; refine hK T' ?_; simp only [c1, k2, h3.1, h3.2] at hT' ⊢; exact hT'
                · have h3 : wF ts x ((i : Int) + 1) = wF ts x (i : Int) ∧ fF ts x ((i : Int) + 1) = fF ts x (i : Int) := by
                    refine wf_same ts x i ?_
                    rw [hts]; simp only [List.forall_mem_cons, List.not_mem_nil, false_implies, implies_true, and_true]
                    omega
                  refine rows_4_n2 Y r x (wF ts x (szN 4 r)) (wF ts x (i : Int)) 0 0 (((pz 5 4 r q) + 1 + ((0 : Nat) : Int)) % 4) (((pz 5 4 r q) + 1 + ((1 : Nat) : Int)) % 4) (((pz 5 4 r q) + 1 + ((2 : Nat) : Int)) % 4) (fF ts x (szN 4 r)) (fF ts x (i : Int)) q (szN 4 r) i _ hi hN n0 n1 u T ?_ K ?_
                  · have hT' := hT; rw [k1] at hT'; exact hT'
                  · intro T' hT'; refine hK T' ?_; simp only [c1, k2, h3.1, h3.2] at hT' ⊢; exact hT'
            · have k1 : kF ts ((i : Int) + 1) = kF ts (i : Int) := kF_same ts i (by
                rw [hts]; unfold arF at a; simp only [List.forall_mem_cons, List.not_mem_nil, false_implies, implies_true, and_true]; omega)
              have h3 : wF ts x ((i : Int) + 1) = wF ts x (i : Int) ∧ fF ts x ((i : Int) + 1) = fF ts x (i : Int) := by
                refine wf_same ts x i ?_
                rw [hts]; unfold arF at a; simp only [List.forall_mem_cons, List.not_mem_nil, false_implies, implies_true, and_true]
                omega
              refine rows_4_a Y r x (wF ts x (szN 4 r)) (wF ts x (i : Int)) (kF ts (i : Int)) _ (((pz 5 4 r q) + 1 + ((0 : Nat) : Int)) % 4) (((pz 5 4 r q) + 1 + ((1 : Nat) : Int)) % 4) (((pz 5 4 r q) + 1 + ((2 : Nat) : Int)) % 4) (fF ts x (szN 4 r)) (fF ts x (i : Int)) q (szN 4 r) i _ hi hN n0 a T hT K ?_
              intro T' hT'; refine hK T' ?_; simp only [c1, k1, h3.1, h3.2] at hT' ⊢; exact hT')
          (fun Y T hT K hK => rows_4_f Y r x (wF ts x (szN 4 r)) (wF ts x (szN 4 r)) (kF ts (szN 4 r)) (((pz 5 4 r q) + 1 + ((0 : Nat) : Int)) % 4) (((pz 5 4 r q) + 1 + ((1 : Nat) : Int)) % 4) (((pz 5 4 r q) + 1 + ((2 : Nat) : Int)) % 4) (fF ts x (szN 4 r)) (fF ts x (szN 4 r)) q (szN 4 r) _ hN T hT K hK)
      rw [show (((0 : Nat) : Int)) = 0 from rfl, kF_post ts 0 z0, (wf_zero ts x z0).1, (wf_zero ts x z0).2] at L
      exact rows_4_y Y r x _ (((pz 5 4 r q) + 1 + ((0 : Nat) : Int)) % 4) (((pz 5 4 r q) + 1 + ((1 : Nat) : Int)) % 4) (((pz 5 4 r q) + 1 + ((2 : Nat) : Int)) % 4) _ q (szN 4 r) _ (rg_t g) sb o hN hpz (R19_5 rfl g sa (by omega)) hS e1 e2 h15 L K hK
section
variable {P : Program}
variable (hmix : P.follows .mixedOrders = true)
include hmix
theorem la6_ok (o : FOk P 19 c19) : LastOk P la6 id := lastFn_ok (callable_fok o) (fun ρ args args' v hv ha => by
  unfold R19 at hv; split at hv
  · split at hv
    · rename_i h
      cases hv; exact answers_of_walk hmix o (callD_sound pHolds hmix tb0_ok la0_ok 5) ha rfl rfl (fun K hK => rpar_walk _ _ _ _ _ h K hK)
    · cases hv
  · cases hv) la0_ok
omit hmix in
theorem S15_plain (l m r : Int) : Lay.isPlain (.new (.slice (szN m r) 2) none (.cells (cellsF l m (szN m r) 0) false)) = true := by
  show (true && (!false && plains (cellsF l m (szN m r) 0))) = true
  rw [plains_cellsF]; rfl
theorem S15_ans (o19 : FOk P 19 c19) (o : FOk P 15 c15) {l m r : Int} (h : rgP l m r) {ρ : Ren} {args' : List Value} (ha : VRs ρ [geo l m r] args') : AnswersL P 15 args' (.new (.slice (szN m r) 2) none (.cells (cellsF l m (szN m r) 0) false)) :=
  answersL_walk hmix o (callD_sound pHolds hmix tb0_ok (la6_ok hmix o19) 5) ha rfl (S15_plain l m r) (all_walk Ys.none l m r h)
theorem S15_ok (o19 : FOk P 19 c19) (o : FOk P 15 c15) : ∀ (ρ : Ren) (args : List V) (args' : List Value) (L : Lay), S15 args = some L → VRs ρ args args' → L.isPlain = true ∧ AnswersL P 15 args' L := by
  intro ρ args args' L hS ha
  unfold S15 at hS; split at hS
  · rename_i l m r
    split at hS
    · rename_i h
      cases hS
      exact ⟨S15_plain l m r, S15_ans hmix o19 o h ha⟩
    · cases hS
  · cases hS
end
section
variable {P : Program}
variable (hmix : P.follows .mixedOrders = true)
include hmix
omit hmix in
theorem plains_ints : ∀ (l : List Int), plains (l.map fun x => V.int .i64 x) = true
  | [] => rfl
  | x :: l => by simp only [List.map_cons, plains, V.plain, plains_ints l, Bool.and_self]
omit hmix in
theorem S17_plain (m p : Int) : Lay.isPlain (.new (.slice (m - 1).toNat 1) none (.cells (dataF m p) false)) = true := by
  show (true && (!false && plains (dataF m p))) = true
  unfold dataF
  rw [plains_ints]; rfl
theorem S17_ans (h4 : LastOk P la4 id) (o : FOk P 17 c17) {l m r s : Int} (h : roB l m r s = true) {ρ : Ren} {args' : List Value} (ha : VRs ρ [geo l m r, .int .i64 s] args') : AnswersL P 17 args' (.new (.slice (m - 1).toNat 1) none (.cells (dataF m (pz l m r s)) false)) :=
  answersL_walk hmix o (callD_sound pHolds hmix tb0_ok h4 5) ha rfl (S17_plain m _) (data_walk Ys.none l m r s h)
theorem S17_ansn (h4 : LastOk P la4 id) (o : FOk P 17 c17) {l m r s : Int} (h : roB l m r s = false) {ρ : Ren} {args' : List Value} (ha : VRs ρ [geo l m r, .int .i64 s] args') : AnswersL P 17 args' (.plain .nilslice) :=
  answersL_walk hmix o (callD_sound pHolds hmix tb0_ok h4 5) ha rfl rfl (data_n Ys.none l m r s h (by rw [pz_eq, if_neg]; intro k; rw [ro_t.2 k] at h; cases h) _ fun _ => rfl)
theorem S17_ok (h4 : LastOk P la4 id) (o : FOk P 17 c17) : ∀ (ρ : Ren) (args : List V) (args' : List Value) (L : Lay), S17 args = some L → VRs ρ args args' → L.isPlain = true ∧ AnswersL P 17 args' L := by
  intro ρ args args' L hS ha
  unfold S17 at hS; split at hS
  · rename_i l m r s
    split at hS
    · rename_i h
      cases hS
      exact ⟨S17_plain m _, S17_ans hmix h4 o h ha⟩
    · rename_i h
      cases hS
      exact ⟨rfl, S17_ansn hmix h4 o (by simpa using h) ha⟩
  · cases hS
omit hmix in
theorem tb23_ok (o23 : FOk P 23 c23) : TabOk P tb23 := by
  intro f af h
  simp only [tb23] at h
  by_cases e : f = 23
  · subst e; cases h; exact o23
  · rw [nbeqF e] at h; cases h
theorem la8_ok (h4 : LastOk P la4 id) (o : FOk P 17 c17) : LastOk P la8 id := lastL_ok (callable_fok o) (S17_ok hmix h4 o) h4
theorem la9a_ok (h4 : LastOk P la4 id) (o11 : FOk P 11 c11) (o15 : FOk P 15 c15) (o17 : FOk P 17 c17) (o18 : FOk P 18 c18) (o19 : FOk P 19 c19) (o23 : FOk P 23 c23) : LastOk P (lastFn 18 R18 (lastL 17 S17 (lastL 15 S15 (lastFn 11 R10 (lastFn 19 R19 la4))))) id := by
  have l1 : LastOk P (lastFn 19 R19 la4) id := lastFn_ok (callable_fok o19) (fun ρ args args' v hv ha => by
    unfold R19 at hv; split at hv
    · split at hv
      · rename_i h
        cases hv; exact answers_of_walk hmix o19 (callD_sound pHolds hmix tb0_ok la0_ok 5) ha rfl rfl (fun K hK => rpar_walk _ _ _ _ _ h K hK)
      · cases hv
    · cases hv) h4
  have l2 : LastOk P (lastFn 11 R10 (lastFn 19 R19 la4)) id := lastFn_ok (callable_fok o11) (fun ρ args args' v hv ha => by
    unfold R10 at hv; split at hv
    · cases hv; exact answers_of_walk hmix o11 (callD_sound pHolds hmix tb0_ok la0_ok 5) ha rfl rfl (fun K hK => xright _ _ _ _ K hK)
    · cases hv) l1
  exact lastFn_ok (callable_fok o18) (fun ρ args args' v hv ha => by
    unfold R18 at hv; split at hv
    · cases hv; exact answers_of_walk hmix o18 (callD_sound pHolds hmix (tb23_ok o23) (la8_ok hmix h4 o17) 5) ha rfl rfl (fun K hK => sec_walk _ _ _ _ _ _ K hK)
    · cases hv) (lastL_ok (callable_fok o17) (S17_ok hmix h4 o17) (lastL_ok (callable_fok o15) (S15_ok hmix o19 o15) l2))
end

end Go.Proofs.Ytefklpegpecliaa
