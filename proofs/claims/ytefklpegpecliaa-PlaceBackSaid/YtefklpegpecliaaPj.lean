/- Walks through package place: part Pj. No condition. -/
import Derived.Test.YtefklpegpecliaaPc
namespace Go.Proofs.Ytefklpegpecliaa
open Go Go.AM
set_option maxRecDepth 100000
set_option linter.unusedVariables false
theorem rightB_t {l m r : Int} (h : rightB l m r = true) : ((l = 1 ∧ m = 2) ∨ (l = 5 ∧ m = 3) ∨ (l = 5 ∧ m = 4)) ∧ 2 ≤ r ∧ r ≤ 64 ∧ r % 2 = 0 := by
  simp only [rightB, shapeB, Bool.and_eq_true, Bool.or_eq_true, decide_eq_true_eq] at h
  omega
theorem rowB_t {l m r s : Int} (h : rowB l m r s = true) : rightB l m r = true ∧ 0 ≤ s ∧ s < r := by
  simpa only [rowB, Bool.and_eq_true, decide_eq_true_eq] using h
theorem rowB_i {l m r s : Int} (h : rightB l m r = true) (h0 : 0 ≤ s) (h1 : s < r) : rowB l m r s = true := by
  simp only [rowB, Bool.and_eq_true, decide_eq_true_eq]; exact ⟨h, h0, h1⟩
theorem parT_t {l m r s : Int} (h : rowB l m r s = true) : parT l m r s = .tuple [.int .i64 (parZ l m s), .bool true] := by rw [parT, h]; rfl
theorem parT_f {l m r s : Int} (h : rowB l m r s = false) : parT l m r s = .tuple [.int .i64 0, .bool false] := by rw [parT, h]; rfl
theorem inB_t {l m r s : Int} (h : inB l m r s = true) : 0 ≤ s ∧ s < sizeZ l m r := by simpa only [inB, Bool.and_eq_true, decide_eq_true_eq] using h
theorem inB_i {l m r s : Int} (h0 : 0 ≤ s) (h1 : s < sizeZ l m r) : inB l m r s = true := by simp only [inB, Bool.and_eq_true, decide_eq_true_eq]; exact ⟨h0, h1⟩
theorem sizeZ_t {l m r : Int} (h : rightB l m r = true) : sizeZ l m r = r * (m - 1) := by rw [sizeZ, h]; rfl
theorem sizeZ_f {l m r : Int} (h : rightB l m r = false) : sizeZ l m r = 0 := by rw [sizeZ, h]; rfl

theorem size_walk (Y : Ys Prop) (l m r : Int) (K : V → Mem → Prop) (hK : ∀ mm, K (.int .i64 (sizeZ l m r)) mm) : body1 pA (callD pA tab0 last1 5) Y c13 [geo l m r] ⟨0, .leaf⟩ K := by
  cases h : rightB l m r
  · rw [sizeZ_f h] at hK
    exact size_n Y l m r K h (s10 h) hK
  · rw [sizeZ_t h] at hK
    obtain ⟨(⟨rfl, rfl⟩ | ⟨rfl, rfl⟩ | ⟨rfl, rfl⟩), h1, h2, h3⟩ := rightB_t h
    · exact size_y2 Y r K h1 h2 (s10 h) hK
    · exact size_y3 Y r K h1 h2 (s10 h) hK
    · exact size_y4 Y r K h1 h2 (s10 h) hK
theorem row_walk (Y : Ys Prop) (l m r s : Int) (K : V → Mem → Prop) (hK : ∀ mm, K (.bool (rowB l m r s)) mm) : body1 pA (callD pA tab0 last2 5) Y c22 [geo l m r, .int .i64 s] ⟨0, .leaf⟩ K := by
  cases h : rightB l m r
  · exact row_n Y l m r s K (s10 h) (by simpa [rowB, h] using hK)
  · by_cases a : s < 0
    · exact row_lo Y l m r s K (s10 h) a (by simpa [rowB, h, show ¬ 0 ≤ s by omega] using hK)
    · by_cases b : s < r
      · exact row_y Y l m r s K (s10 h) (by omega) b (by simpa [rowB, h, show 0 ≤ s by omega, b] using hK)
      · exact row_hi Y l m r s K (s10 h) (by omega) (by omega) (by simpa [rowB, h, b] using hK)
theorem par_walk (Y : Ys Prop) (l m r s : Int) (K : V → Mem → Prop) (hK : ∀ mm, K (parT l m r s) mm) : body1 pA (callD pA tab0 last3 5) Y c16 [geo l m r, .int .i64 s] ⟨0, .leaf⟩ K := by
  cases h : rowB l m r s
  · rw [parT_f h] at hK
    exact par_n Y l m r s K (s22 h) hK
  · rw [parT_t h] at hK
    obtain ⟨h', h4, h5⟩ := rowB_t h
    obtain ⟨(⟨rfl, rfl⟩ | ⟨rfl, rfl⟩ | ⟨rfl, rfl⟩), h1, h2, h3⟩ := rightB_t h'
    · exact par_2 Y r s K (s22 h) (by simpa [parZ] using hK)
    · exact par_3 Y r s K (s22 h) h4 (by omega) (by simpa [parZ] using hK)
    · exact par_4 Y r s K (s22 h) h4 (by omega) (by simpa [parZ] using hK)
theorem parZ_lt {l m r s : Int} (h : rowB l m r s = true) : 0 ≤ parZ l m s ∧ parZ l m s < m := by
  obtain ⟨h', h4, h5⟩ := rowB_t h
  obtain ⟨(⟨rfl, rfl⟩ | ⟨rfl, rfl⟩ | ⟨rfl, rfl⟩), h1, h2, h3⟩ := rightB_t h' <;> simp [parZ] <;> omega
theorem rowZ_in {l m r s : Int} (h : rightB l m r = true) (h0 : 0 ≤ s) (h1 : s < sizeZ l m r) : rowB l m r (rowZ m s) = true := by
  rw [sizeZ_t h] at h1
  obtain ⟨(⟨rfl, rfl⟩ | ⟨rfl, rfl⟩ | ⟨rfl, rfl⟩), h2, h3, h4⟩ := rightB_t h <;> refine rowB_i h ?_ ?_ <;> simp only [rowZ] <;> omega
theorem at_walk (Y : Ys Prop) (l m r s : Int) (K : V → Mem → Prop) (hK : ∀ mm, K (atT l m r s) mm) : body1 pA (callD pA tabD last4 5) Y c12 [geo l m r, .int .i64 s] ⟨0, .leaf⟩ K := by
  cases hi : inB l m r s
  · rw [atT, hi, cond_false] at hK
    by_cases a : s < 0
    · exact at_lo Y l m r s K a hK
    · refine at_hi Y l m r s (sizeZ l m r) K (s13 rfl) (by omega) ?_ hK
      refine Int.not_lt.1 fun hlt => ?_
      rw [inB_i (by omega) hlt] at hi
      cases hi
  · obtain ⟨h0, hs⟩ := inB_t hi
    rw [atT, hi, cond_true] at hK
    cases h : rightB l m r
    · rw [sizeZ_f h] at hs; omega
    have hrow := rowZ_in h h0 hs
    have hs2 := s16 (parT_t hrow)
    obtain ⟨hp, hp2⟩ := parZ_lt hrow
    have hz := sizeZ_t h
    have hs13 := s13 hz
    rw [hz] at hs
    obtain ⟨(⟨rfl, rfl⟩ | ⟨rfl, rfl⟩ | ⟨rfl, rfl⟩), h1, h2, h3⟩ := rightB_t h
    · have hd : s / 2 % (2 - 1) = ((0 : Nat) : Int) := by omega
      rw [hd] at hK
      exact at_2_0 Y r s _ K hs13 h2 h0 hs hd hp hp2 hs2 hK
    · rcases (show s / 2 % (3 - 1) = ((0 : Nat) : Int) ∨ s / 2 % (3 - 1) = ((1 : Nat) : Int) by omega) with hd | hd <;> rw [hd] at hK
      · exact at_3_0 Y r s _ K hs13 h2 h0 hs hd hp hp2 hs2 hK
      · exact at_3_1 Y r s _ K hs13 h2 h0 hs hd hp hp2 hs2 hK
    · rcases (show s / 2 % (4 - 1) = ((0 : Nat) : Int) ∨ s / 2 % (4 - 1) = ((1 : Nat) : Int) ∨ s / 2 % (4 - 1) = ((2 : Nat) : Int) by omega) with hd | hd | hd <;> rw [hd] at hK
      · exact at_4_0 Y r s _ K hs13 h2 h0 hs hd hp hp2 hs2 hK
      · exact at_4_1 Y r s _ K hs13 h2 h0 hs hd hp hp2 hs2 hK
      · exact at_4_2 Y r s _ K hs13 h2 h0 hs hd hp hp2 hs2 hK
end Go.Proofs.Ytefklpegpecliaa
