/- The functions of package place by what they answer, and the law by its cases. No condition. -/
import Derived.Test.YtefklpegpecliaaTW
namespace Go.Proofs.Ytefklpegpecliaa
open Go Go.AM
set_option maxRecDepth 100000
set_option maxHeartbeats 0
set_option linter.unusedVariables false
theorem ab_t {l m r s : Int} : ab l m r s = true ↔ rgP l m r ∧ 0 ≤ s ∧ s < r * (m - 1) := by rw [ab_eq, decide_eq_true_eq]
theorem ab_f {l m r s : Int} (h : ¬ (rgP l m r ∧ 0 ≤ s ∧ s < r * (m - 1))) : ab l m r s = false := by rw [ab_eq, decide_eq_false h]
theorem ro_t {l m r s : Int} : roB l m r s = true ↔ rgP l m r ∧ 0 ≤ s ∧ s < r := by rw [roB_eq, decide_eq_true_eq]
theorem ro_f {l m r s : Int} (h : ¬ (rgP l m r ∧ 0 ≤ s ∧ s < r)) : roB l m r s = false := by rw [roB_eq, decide_eq_false h]
theorem rg_t {l m r : Int} (h : rgP l m r) : rgB l m r = true := by rw [rgB_eq, decide_eq_true h]
theorem rg_f {l m r : Int} (h : ¬ rgP l m r) : rgB l m r = false := by rw [rgB_eq, decide_eq_false h]
theorem pz_1 {r x : Int} (g : rgP 1 2 r) (h0 : 0 ≤ x) (h1 : x < r) : pz 1 2 r x = 1 := by rw [pz_eq, if_pos ⟨g, h0, h1⟩, if_pos rfl]
theorem pz_5 {m r x : Int} (g : rgP 5 m r) (h0 : 0 ≤ x) (h1 : x < r) : pz 5 m r x = m - 1 - x / 2 % m := by rw [pz_eq, if_pos ⟨g, h0, h1⟩, if_neg (by decide)]
theorem size_walk (Y : Ys Prop) (l m r : Int) (K : V → Mem → Prop) (hK : ∀ mm, K (.int .i64 (sz l m r)) mm) : body1 pA (callD pA tb0 la1 5) Y c13 [geo l m r] ⟨0, .leaf⟩ K := by
  by_cases g : rgP l m r
  · have hb := rg_t g
    have hz : sz l m r = r * (m - 1) := by rw [sz_eq, if_pos g]
    obtain ⟨h1, h2, h3, h4⟩ := g
    rcases h1 with ⟨rfl, rfl⟩ | ⟨rfl, rfl | rfl⟩
    · exact size_2 Y r hb h2 h3 K fun mm => by have h := hK mm; rw [hz, show (2 : Int) - 1 = 1 from rfl] at h; exact h
    · exact size_3 Y r hb h2 h3 K fun mm => by have h := hK mm; rw [hz, show (3 : Int) - 1 = 2 from rfl] at h; exact h
    · exact size_4 Y r hb h2 h3 K fun mm => by have h := hK mm; rw [hz, show (4 : Int) - 1 = 3 from rfl] at h; exact h
  · have hz : sz l m r = 0 := by rw [sz_eq, if_neg g]
    exact size_n Y l m r (rg_f g) hz K fun mm => by have h := hK mm; rw [hz] at h; exact h
theorem row_walk (Y : Ys Prop) (l m r s : Int) (K : V → Mem → Prop) (hK : ∀ mm, K (.bool (roB l m r s)) mm) : body1 pA (callD pA tb0 la2 5) Y c22 [geo l m r, .int .i64 s] ⟨0, .leaf⟩ K := by
  by_cases g : rgP l m r
  · exact row_y Y l m r s (rg_t g) g K hK
  · exact row_n Y l m r s (rg_f g) g K hK
theorem par_walk (Y : Ys Prop) (l m r s : Int) (K : V → Mem → Prop) (hK : ∀ mm, K (.tuple [.int .i64 (pz l m r s), .bool (roB l m r s)]) mm) : body1 pA (callD pA tb0 la3 5) Y c16 [geo l m r, .int .i64 s] ⟨0, .leaf⟩ K := by
  by_cases h : rgP l m r ∧ 0 ≤ s ∧ s < r
  · have ho := ro_t.2 h
    rw [ho] at hK
    obtain ⟨g, s0, s1⟩ := h
    have g' := g
    obtain ⟨h1, h2, h3, h4⟩ := g
    rcases h1 with ⟨rfl, rfl⟩ | ⟨rfl, rfl | rfl⟩
    · exact par_2 Y r s ho s0 (by omega) K fun mm => by have h := hK mm; rw [pz_1 g' s0 s1] at h; exact h
    · exact par_3 Y r s ho s0 (by omega) K fun mm => by have h := hK mm; rw [pz_5 g' s0 s1, show (3 : Int) - 1 = 2 from rfl] at h; exact h
    · exact par_4 Y r s ho s0 (by omega) K fun mm => by have h := hK mm; rw [pz_5 g' s0 s1, show (4 : Int) - 1 = 3 from rfl] at h; exact h
  · have hz : pz l m r s = 0 := by rw [pz_eq, if_neg h]
    exact par_n Y l m r s (ro_f h) hz K fun mm => by have k := hK mm; rw [hz, ro_f h] at k; exact k
theorem at_walk (Y : Ys Prop) (l m r s : Int) (K : V → Mem → Prop) (hK : ∀ mm, K (.tuple [.int .i64 (ar l m r s), .int .i64 (am l m r s), .bool (ab l m r s)]) mm) : body1 pA (callD pA tbA la4 5) Y c12 [geo l m r, .int .i64 s] ⟨0, .leaf⟩ K := by
  by_cases h : rgP l m r ∧ 0 ≤ s ∧ s < r * (m - 1)
  · have hb := ab_t.2 h
    have hr : ar l m r s = s / 2 / (m - 1) * 2 + s % 2 := by rw [ar_eq, if_pos h]
    have hm : am l m r s = (pz l m r (s / 2 / (m - 1) * 2 + s % 2) + 1 + s / 2 % (m - 1)) % m := by rw [am_eq, if_pos h]
    rw [hb, hr, hm] at hK
    obtain ⟨g, s0, s1⟩ := h
    have hz : sz l m r = r * (m - 1) := by rw [sz_eq, if_pos g]
    have g' := g
    obtain ⟨h1, h2, h3, h4⟩ := g
    rcases h1 with ⟨rfl, rfl⟩ | ⟨rfl, rfl | rfl⟩
    · rw [show (2 : Int) - 1 = 1 from rfl] at hK s1 hz
      have q0 : 0 ≤ s / 2 / 1 * 2 + s % 2 := by omega
      have q1 : s / 2 / 1 * 2 + s % 2 < r := by omega
      have ho := ro_t.2 ⟨g', q0, q1⟩
      have hp := pz_1 g' q0 q1
      have hd : s / 2 % 1 = 0 := by omega
      rcases hd with hd
      · exact at_2_0 Y r s _ h3 s0 (by rw [hz]; exact s1) (by omega) hd rfl ho (by rw [hp]; omega) (by rw [hp]; omega) K fun mm => by have h := hK mm; rw [hd] at h; exact h
    · rw [show (3 : Int) - 1 = 2 from rfl] at hK s1 hz
      have q0 : 0 ≤ s / 2 / 2 * 2 + s % 2 := by omega
      have q1 : s / 2 / 2 * 2 + s % 2 < r := by omega
      have ho := ro_t.2 ⟨g', q0, q1⟩
      have hp := pz_5 g' q0 q1
      have hd : s / 2 % 2 = 0 ∨ s / 2 % 2 = 1 := by omega
      rcases hd with hd | hd
      · exact at_3_0 Y r s _ h3 s0 (by rw [hz]; exact s1) (by omega) hd rfl ho (by rw [hp]; omega) (by rw [hp]; omega) K fun mm => by have h := hK mm; rw [hd] at h; exact h
      · exact at_3_1 Y r s _ h3 s0 (by rw [hz]; exact s1) (by omega) hd rfl ho (by rw [hp]; omega) (by rw [hp]; omega) K fun mm => by have h := hK mm; rw [hd] at h; exact h
    · rw [show (4 : Int) - 1 = 3 from rfl] at hK s1 hz
      have q0 : 0 ≤ s / 2 / 3 * 2 + s % 2 := by omega
      have q1 : s / 2 / 3 * 2 + s % 2 < r := by omega
      have ho := ro_t.2 ⟨g', q0, q1⟩
      have hp := pz_5 g' q0 q1
      have hd : s / 2 % 3 = 0 ∨ s / 2 % 3 = 1 ∨ s / 2 % 3 = 2 := by omega
      rcases hd with hd | hd | hd
      · exact at_4_0 Y r s _ h3 s0 (by rw [hz]; exact s1) (by omega) hd rfl ho (by rw [hp]; omega) (by rw [hp]; omega) K fun mm => by have h := hK mm; rw [hd] at h; exact h
      · exact at_4_1 Y r s _ h3 s0 (by rw [hz]; exact s1) (by omega) hd rfl ho (by rw [hp]; omega) (by rw [hp]; omega) K fun mm => by have h := hK mm; rw [hd] at h; exact h
      · exact at_4_2 Y r s _ h3 s0 (by rw [hz]; exact s1) (by omega) hd rfl ho (by rw [hp]; omega) (by rw [hp]; omega) K fun mm => by have h := hK mm; rw [hd] at h; exact h
  · have hr : ar l m r s = 0 := by rw [ar_eq, if_neg h]
    have hm : am l m r s = 0 := by rw [am_eq, if_neg h]
    rw [ab_f h, hr, hm] at hK
    by_cases s0 : s < 0
    · exact at_lo Y l m r s s0 K hK
    · refine at_hi Y l m r s (by omega) ?_ K hK
      rw [sz_eq]
      split
      · rename_i g
        exact Int.not_lt.1 fun x => h ⟨g, by omega, x⟩
      · omega
theorem turns_walk (Y : Ys Prop) (l m r s row : Int) (K : V → Mem → Prop) (hK : ∀ mm, K (.bool true) mm) : body1 pA (callD pA tbA la5 5) Y c7 [geo l m r, .int .i64 s, .int .i64 row] ⟨0, .leaf⟩ K := by
  by_cases g : rgP l m r
  · have h := g
    obtain ⟨h1, h2, h3, h4⟩ := h
    rcases h1 with ⟨rfl, rfl⟩ | ⟨rfl, rfl | rfl⟩
    · have sb : ab 1 2 r s = true → s < 192 := fun h => by have := (ab_t.1 h).2; omega
      have rb : roB 1 2 r row = true → 0 ≤ row ∧ row < 64 := fun h => by have := (ro_t.1 h).2; omega
      have a0 : 0 ≤ ar 1 2 r s := by rw [ar_eq]; split <;> omega
      have a1 : ar 1 2 r s < 64 := by
        rw [ar_eq]; split
        · rename_i h; have := h.2; omega
        · omega
      have g1 : ab 1 2 r s = true → s % 2 = 0 → ab 1 2 r (s + 1) = true ∧ ar 1 2 r (s + 1) = ar 1 2 r s + 1 ∧ am 1 2 r (s + 1) = am 1 2 r s := by
        intro h h2
        obtain ⟨_, s0, s1⟩ := ab_t.1 h
        rw [show (2 : Int) - 1 = 1 from rfl] at s1
        have q : rgP 1 2 r ∧ 0 ≤ s + 1 ∧ s + 1 < r * (2 - 1) := ⟨g, by omega, by omega⟩
        have q' : rgP 1 2 r ∧ 0 ≤ s ∧ s < r * (2 - 1) := ⟨g, by omega, by omega⟩
        have w1 : (s + 1) / 2 = s / 2 := by omega
        have w2 : (s + 1) % 2 = s % 2 + 1 := by omega
        have x1 : 0 ≤ s / 2 / 1 * 2 + s % 2 := by omega
        have x2 : s / 2 / 1 * 2 + s % 2 + 1 < r := by omega
        refine ⟨ab_t.2 q, ?_, ?_⟩
        · rw [ar_eq, if_pos q, ar_eq, if_pos q', w1, w2]; omega
        · rw [am_eq, if_pos q, am_eq, if_pos q', w1, w2, show (2 : Int) - 1 = 1 from rfl, pz_1 g (by omega) (by omega), pz_1 g (by omega) (by omega)]
      have g2 : roB 1 2 r row = true → row % 2 = 0 → roB 1 2 r (row + 1) = true ∧ pz 1 2 r (row + 1) = pz 1 2 r row := by
        intro h h2
        obtain ⟨_, s0, s1⟩ := ro_t.1 h
        refine ⟨ro_t.2 ⟨g, by omega, by omega⟩, ?_⟩
        rw [pz_1 g (by omega) (by omega), pz_1 g (by omega) (by omega)]
      have kz : roB 1 2 r row = true → roB 1 2 r (row + 4) = true → pz 1 2 r (row + 4) = pz 1 2 r row := by
        intro h h'
        have u := (ro_t.1 h).2; have v := (ro_t.1 h').2
        rw [pz_1 g (by omega) (by omega), pz_1 g (by omega) (by omega)]
      by_cases o : roB 1 2 r row = true
      · have oo := rb o
        by_cases e : ab 1 2 r s = true
        · exact turns_2a_y Y r s row e ((ab_t.1 e).2.1) (sb e) o oo.1 oo.2 g1 sb rb a0 a1 g2  kz K hK
        · exact turns_2b_y Y r s row (by simpa using e) o oo.1 oo.2 g1 sb rb a0 a1 g2  kz K hK
      · by_cases e : ab 1 2 r s = true
        · exact turns_2a_n Y r s row e ((ab_t.1 e).2.1) (sb e) (by simpa using o) g1 sb rb a0 a1 g2 K hK
        · exact turns_2b_n Y r s row (by simpa using e) (by simpa using o) g1 sb rb a0 a1 g2 K hK
    · have sb : ab 5 3 r s = true → s < 192 := fun h => by have := (ab_t.1 h).2; omega
      have rb : roB 5 3 r row = true → 0 ≤ row ∧ row < 64 := fun h => by have := (ro_t.1 h).2; omega
      have a0 : 0 ≤ ar 5 3 r s := by rw [ar_eq]; split <;> omega
      have a1 : ar 5 3 r s < 64 := by
        rw [ar_eq]; split
        · rename_i h; have := h.2; omega
        · omega
      have g1 : ab 5 3 r s = true → s % 2 = 0 → ab 5 3 r (s + 1) = true ∧ ar 5 3 r (s + 1) = ar 5 3 r s + 1 ∧ am 5 3 r (s + 1) = am 5 3 r s := by
        intro h h2
        obtain ⟨_, s0, s1⟩ := ab_t.1 h
        rw [show (3 : Int) - 1 = 2 from rfl] at s1
        have q : rgP 5 3 r ∧ 0 ≤ s + 1 ∧ s + 1 < r * (3 - 1) := ⟨g, by omega, by omega⟩
        have q' : rgP 5 3 r ∧ 0 ≤ s ∧ s < r * (3 - 1) := ⟨g, by omega, by omega⟩
        have w1 : (s + 1) / 2 = s / 2 := by omega
        have w2 : (s + 1) % 2 = s % 2 + 1 := by omega
        have x1 : 0 ≤ s / 2 / 2 * 2 + s % 2 := by omega
        have x2 : s / 2 / 2 * 2 + s % 2 + 1 < r := by omega
        refine ⟨ab_t.2 q, ?_, ?_⟩
        · rw [ar_eq, if_pos q, ar_eq, if_pos q', w1, w2]; omega
        · rw [am_eq, if_pos q, am_eq, if_pos q', w1, w2, show (3 : Int) - 1 = 2 from rfl, pz_5 g (by omega) (by omega), pz_5 g (by omega) (by omega)]
          have w3 : (s / 2 / 2 * 2 + (s % 2 + 1)) / 2 = (s / 2 / 2 * 2 + s % 2) / 2 := by omega
          rw [w3]
      have g2 : roB 5 3 r row = true → row % 2 = 0 → roB 5 3 r (row + 1) = true ∧ pz 5 3 r (row + 1) = pz 5 3 r row := by
        intro h h2
        obtain ⟨_, s0, s1⟩ := ro_t.1 h
        refine ⟨ro_t.2 ⟨g, by omega, by omega⟩, ?_⟩
        rw [pz_5 g (by omega) (by omega), pz_5 g (by omega) (by omega)]
        omega
      have k1 : roB 5 3 r row = true → roB 5 3 r (row + 2) = true → pz 5 3 r (row + 2) ≠ pz 5 3 r row := by
        intro h h'
        have u := (ro_t.1 h).2; have v := (ro_t.1 h').2
        rw [pz_5 g (by omega) (by omega), pz_5 g (by omega) (by omega)]
        omega
      have k2 : roB 5 3 r row = true → roB 5 3 r (row + 4) = true → pz 5 3 r (row + 4) ≠ pz 5 3 r row := by
        intro h h'
        have u := (ro_t.1 h).2; have v := (ro_t.1 h').2
        rw [pz_5 g (by omega) (by omega), pz_5 g (by omega) (by omega)]
        omega
      have kz : roB 5 3 r row = true → roB 5 3 r (row + 6) = true → pz 5 3 r (row + 6) = pz 5 3 r row := by
        intro h h'
        have u := (ro_t.1 h).2; have v := (ro_t.1 h').2
        rw [pz_5 g (by omega) (by omega), pz_5 g (by omega) (by omega)]
        omega
      by_cases o : roB 5 3 r row = true
      · have oo := rb o
        by_cases e : ab 5 3 r s = true
        · exact turns_3a_y Y r s row e ((ab_t.1 e).2.1) (sb e) o oo.1 oo.2 g1 sb rb a0 a1 g2 k1 k2 kz K hK
        · exact turns_3b_y Y r s row (by simpa using e) o oo.1 oo.2 g1 sb rb a0 a1 g2 k1 k2 kz K hK
      · by_cases e : ab 5 3 r s = true
        · exact turns_3a_n Y r s row e ((ab_t.1 e).2.1) (sb e) (by simpa using o) g1 sb rb a0 a1 g2 K hK
        · exact turns_3b_n Y r s row (by simpa using e) (by simpa using o) g1 sb rb a0 a1 g2 K hK
    · have sb : ab 5 4 r s = true → s < 192 := fun h => by have := (ab_t.1 h).2; omega
      have rb : roB 5 4 r row = true → 0 ≤ row ∧ row < 64 := fun h => by have := (ro_t.1 h).2; omega
      have a0 : 0 ≤ ar 5 4 r s := by rw [ar_eq]; split <;> omega
      have a1 : ar 5 4 r s < 64 := by
        rw [ar_eq]; split
        · rename_i h; have := h.2; omega
        · omega
      have g1 : ab 5 4 r s = true → s % 2 = 0 → ab 5 4 r (s + 1) = true ∧ ar 5 4 r (s + 1) = ar 5 4 r s + 1 ∧ am 5 4 r (s + 1) = am 5 4 r s := by
        intro h h2
        obtain ⟨_, s0, s1⟩ := ab_t.1 h
        rw [show (4 : Int) - 1 = 3 from rfl] at s1
        have q : rgP 5 4 r ∧ 0 ≤ s + 1 ∧ s + 1 < r * (4 - 1) := ⟨g, by omega, by omega⟩
        have q' : rgP 5 4 r ∧ 0 ≤ s ∧ s < r * (4 - 1) := ⟨g, by omega, by omega⟩
        have w1 : (s + 1) / 2 = s / 2 := by omega
        have w2 : (s + 1) % 2 = s % 2 + 1 := by omega
        have x1 : 0 ≤ s / 2 / 3 * 2 + s % 2 := by omega
        have x2 : s / 2 / 3 * 2 + s % 2 + 1 < r := by omega
        refine ⟨ab_t.2 q, ?_, ?_⟩
        · rw [ar_eq, if_pos q, ar_eq, if_pos q', w1, w2]; omega
        · rw [am_eq, if_pos q, am_eq, if_pos q', w1, w2, show (4 : Int) - 1 = 3 from rfl, pz_5 g (by omega) (by omega), pz_5 g (by omega) (by omega)]
          have w3 : (s / 2 / 3 * 2 + (s % 2 + 1)) / 2 = (s / 2 / 3 * 2 + s % 2) / 2 := by omega
          rw [w3]
      have g2 : roB 5 4 r row = true → row % 2 = 0 → roB 5 4 r (row + 1) = true ∧ pz 5 4 r (row + 1) = pz 5 4 r row := by
        intro h h2
        obtain ⟨_, s0, s1⟩ := ro_t.1 h
        refine ⟨ro_t.2 ⟨g, by omega, by omega⟩, ?_⟩
        rw [pz_5 g (by omega) (by omega), pz_5 g (by omega) (by omega)]
        omega
      have k1 : roB 5 4 r row = true → roB 5 4 r (row + 2) = true → pz 5 4 r (row + 2) ≠ pz 5 4 r row := by
        intro h h'
        have u := (ro_t.1 h).2; have v := (ro_t.1 h').2
        rw [pz_5 g (by omega) (by omega), pz_5 g (by omega) (by omega)]
        omega
      have k2 : roB 5 4 r row = true → roB 5 4 r (row + 4) = true → pz 5 4 r (row + 4) ≠ pz 5 4 r row := by
        intro h h'
        have u := (ro_t.1 h).2; have v := (ro_t.1 h').2
        rw [pz_5 g (by omega) (by omega), pz_5 g (by omega) (by omega)]
        omega
      have k3 : roB 5 4 r row = true → roB 5 4 r (row + 6) = true → pz 5 4 r (row + 6) ≠ pz 5 4 r row := by
        intro h h'
        have u := (ro_t.1 h).2; have v := (ro_t.1 h').2
        rw [pz_5 g (by omega) (by omega), pz_5 g (by omega) (by omega)]
        omega
      have kz : roB 5 4 r row = true → roB 5 4 r (row + 8) = true → pz 5 4 r (row + 8) = pz 5 4 r row := by
        intro h h'
        have u := (ro_t.1 h).2; have v := (ro_t.1 h').2
        rw [pz_5 g (by omega) (by omega), pz_5 g (by omega) (by omega)]
        omega
      by_cases o : roB 5 4 r row = true
      · have oo := rb o
        by_cases e : ab 5 4 r s = true
        · exact turns_4a_y Y r s row e ((ab_t.1 e).2.1) (sb e) o oo.1 oo.2 g1 sb rb a0 a1 g2 k1 k2 k3 kz K hK
        · exact turns_4b_y Y r s row (by simpa using e) o oo.1 oo.2 g1 sb rb a0 a1 g2 k1 k2 k3 kz K hK
      · by_cases e : ab 5 4 r s = true
        · exact turns_4a_n Y r s row e ((ab_t.1 e).2.1) (sb e) (by simpa using o) g1 sb rb a0 a1 g2 K hK
        · exact turns_4b_n Y r s row (by simpa using e) (by simpa using o) g1 sb rb a0 a1 g2 K hK
  · exact turns_0 Y l m r s row (ab_f fun x => g x.1) (ro_f fun x => g x.1) K hK
section
variable {P : Program}
theorem callable_fok {f : Nat} {af : AFunc} (h : FOk P f af) : Callable P f := by
  obtain ⟨fn, h3, h4, h5⟩ := h
  exact callable_of h3 (body_of_comp h4) h5
theorem la0_ok : LastOk P la0 id := last_none (A := pA) pHolds
theorem tb0_ok : TabOk P tb0 := fun f af h => nomatch h
theorem tbA_ok (o17 : FOk P 17 c17) : TabOk P tbA := by
  intro f af h
  simp only [tbA] at h
  by_cases e : f = 17
  · subst e; cases h; exact o17
  · rw [nbeqF e] at h; cases h
variable (hmix : P.follows .mixedOrders = true)
include hmix
theorem la1_ok (o : FOk P 10 c10) : LastOk P la1 id := lastFn_ok (callable_fok o) (fun ρ args args' v hv ha => by
  unfold R10 at hv; split at hv
  · cases hv; exact answers_of_walk hmix o (callD_sound pHolds hmix tb0_ok la0_ok 5) ha rfl rfl (fun K hK => right _ _ _ _ K hK)
  · cases hv) la0_ok
theorem la2_ok (h : LastOk P la1 id) (o : FOk P 13 c13) : LastOk P la2 id := lastFn_ok (callable_fok o) (fun ρ args args' v hv ha => by
  unfold R13 at hv; split at hv
  · cases hv; exact answers_of_walk hmix o (callD_sound pHolds hmix tb0_ok h 5) ha rfl rfl (fun K hK => size_walk _ _ _ _ K hK)
  · cases hv) h
theorem la3_ok (h : LastOk P la2 id) (o : FOk P 22 c22) : LastOk P la3 id := lastFn_ok (callable_fok o) (fun ρ args args' v hv ha => by
  unfold R22 at hv; split at hv
  · cases hv; exact answers_of_walk hmix o (callD_sound pHolds hmix tb0_ok h 5) ha rfl rfl (fun K hK => row_walk _ _ _ _ _ K hK)
  · cases hv) h
theorem la4_ok (h : LastOk P la3 id) (o : FOk P 16 c16) : LastOk P la4 id := lastFn_ok (callable_fok o) (fun ρ args args' v hv ha => by
  unfold R16 at hv; split at hv
  · cases hv; exact answers_of_walk hmix o (callD_sound pHolds hmix tb0_ok h 5) ha rfl rfl (fun K hK => par_walk _ _ _ _ _ K hK)
  · cases hv) h
theorem la5a_ok (h : LastOk P la4 id) (o : FOk P 12 c12) (o17 : FOk P 17 c17) : LastOk P (lastFn 12 R12 la4) id := lastFn_ok (callable_fok o) (fun ρ args args' v hv ha => by
  unfold R12 at hv; split at hv
  · cases hv; exact answers_of_walk hmix o (callD_sound pHolds hmix (tbA_ok o17) h 5) ha rfl rfl (fun K hK => at_walk _ _ _ _ _ K hK)
  · cases hv) h
end

end Go.Proofs.Ytefklpegpecliaa
