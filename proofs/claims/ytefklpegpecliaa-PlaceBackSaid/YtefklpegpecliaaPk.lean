/- Walks through package place: part Pk. No condition. -/
import Derived.Test.YtefklpegpecliaaPe
import Derived.Test.YtefklpegpecliaaPj
namespace Go.Proofs.Ytefklpegpecliaa
open Go Go.AM
set_option maxRecDepth 100000
set_option linter.unusedVariables false
theorem sec_walk (Y : Ys Prop) (l m r s x : Int) (K : V → Mem → Prop) (hK : ∀ mm, K (secT l m r s x) mm) : body1 pA (callD pA tabS last5 5) Y c18 [geo l m r, .int .i64 s, .int .i64 x] ⟨0, .leaf⟩ K := by
  cases h : rowB l m r s
  · rw [secT, h, cond_false] at hK
    exact sec_n Y l m r s x K (s16 (parT_f h)) hK
  · rw [secT, h, cond_true] at hK
    have hs2 := s16 (parT_t h)
    obtain ⟨hp, hp2⟩ := parZ_lt h
    obtain ⟨h', h4, h5⟩ := rowB_t h
    obtain ⟨(⟨rfl, rfl⟩ | ⟨rfl, rfl⟩ | ⟨rfl, rfl⟩), h1, h2, h3⟩ := rightB_t h'
    · by_cases a : x = datZ 1 2 s 0
      · rw [if_pos a] at hK
        exact sec_2_0 Y r s x _ K hs2 h2 h4 h5 hp hp2 a hK
      · rw [if_neg a, if_neg (by omega), if_neg (by omega)] at hK
        exact sec_2_1 Y r s x _ K hs2 h2 h4 h5 hp hp2 a hK
    · by_cases a : x = datZ 5 3 s 0
      · rw [if_pos a] at hK
        exact sec_3_0 Y r s x _ K hs2 h2 h4 h5 hp hp2 a hK
      by_cases b : x = datZ 5 3 s 1
      · rw [if_neg a, if_pos ⟨by omega, b⟩] at hK
        exact sec_3_1 Y r s x _ K hs2 h2 h4 h5 hp hp2 a b hK
      · rw [if_neg a, if_neg (fun e => b e.2), if_neg (by omega)] at hK
        exact sec_3_2 Y r s x _ K hs2 h2 h4 h5 hp hp2 a b hK
    · by_cases a : x = datZ 5 4 s 0
      · rw [if_pos a] at hK
        exact sec_4_0 Y r s x _ K hs2 h2 h4 h5 hp hp2 a hK
      by_cases b : x = datZ 5 4 s 1
      · rw [if_neg a, if_pos ⟨by omega, b⟩] at hK
        exact sec_4_1 Y r s x _ K hs2 h2 h4 h5 hp hp2 a b hK
      by_cases c : x = datZ 5 4 s 2
      · rw [if_neg a, if_neg (fun e => b e.2), if_pos ⟨by omega, c⟩] at hK
        exact sec_4_2 Y r s x _ K hs2 h2 h4 h5 hp hp2 a b c hK
      · rw [if_neg a, if_neg (fun e => b e.2), if_neg (fun e => c e.2)] at hK
        exact sec_4_3 Y r s x _ K hs2 h2 h4 h5 hp hp2 a b c hK

/-! The plain law of PlaceBack. -/
theorem tup {a b : Int} (h : a = b) : V.tuple [.int .i64 a, .bool true] = V.tuple [.int .i64 b, .bool true] := by rw [h]
theorem there {l m r s : Int} (h : inB l m r s = true) : ∃ ro me p, atT l m r s = .tuple [.int .i64 ro, .int .i64 me, .bool true] ∧ secT l m r ro me = .tuple [.int .i64 s, .bool true] ∧ parT l m r ro = .tuple [.int .i64 p, .bool true] ∧ p ≠ me := by
  obtain ⟨h0, hs⟩ := inB_t h
  cases hr : rightB l m r
  · rw [sizeZ_f hr] at hs; omega
  have hrow := rowZ_in hr h0 hs
  obtain ⟨hp, hp2⟩ := parZ_lt hrow
  refine ⟨rowZ m s, datZ l m (rowZ m s) (s / 2 % (m - 1)), parZ l m (rowZ m s), by rw [atT, h]; rfl, ?_, parT_t hrow, ?_⟩
  · rw [secT, hrow, cond_true]
    obtain ⟨(⟨rfl, rfl⟩ | ⟨rfl, rfl⟩ | ⟨rfl, rfl⟩), h1, h2, h3⟩ := rightB_t hr
    · rw [if_pos (by first | rfl | exact ⟨by decide, rfl⟩ | (simp only [datZ]; omega))]
      exact tup (by simp only [secZ, rowZ]; omega)
    · rcases (show s / 2 % (3 - 1) = 0 ∨ s / 2 % (3 - 1) = 1 by omega) with hd | hd <;> rw [hd]
      · rw [if_pos (by first | rfl | exact ⟨by decide, rfl⟩ | (simp only [datZ]; omega))]
        exact tup (by simp only [secZ, rowZ]; omega)
      · rw [if_neg (by simp only [datZ]; omega), if_pos (by first | rfl | exact ⟨by decide, rfl⟩ | (simp only [datZ]; omega))]
        exact tup (by simp only [secZ, rowZ]; omega)
    · rcases (show s / 2 % (4 - 1) = 0 ∨ s / 2 % (4 - 1) = 1 ∨ s / 2 % (4 - 1) = 2 by omega) with hd | hd | hd <;> rw [hd]
      · rw [if_pos (by first | rfl | exact ⟨by decide, rfl⟩ | (simp only [datZ]; omega))]
        exact tup (by simp only [secZ, rowZ]; omega)
      · rw [if_neg (by simp only [datZ]; omega), if_pos (by first | rfl | exact ⟨by decide, rfl⟩ | (simp only [datZ]; omega))]
        exact tup (by simp only [secZ, rowZ]; omega)
      · rw [if_neg (by simp only [datZ]; omega), if_neg (by simp only [datZ]; omega), if_pos (by first | rfl | exact ⟨by decide, rfl⟩ | (simp only [datZ]; omega))]
        exact tup (by simp only [secZ, rowZ]; omega)
  · simp only [datZ]
    obtain ⟨(⟨rfl, rfl⟩ | ⟨rfl, rfl⟩ | ⟨rfl, rfl⟩), h1, h2, h3⟩ := rightB_t hr <;> omega

theorem back_at {l m r s x d : Int} (h : rowB l m r s = true) (hd0 : 0 ≤ d) (hd : d < m - 1) (hx : x = datZ l m s d) : atT l m r (secZ m s d) = .tuple [.int .i64 s, .int .i64 x, .bool true] := by
  obtain ⟨hr, h4, h5⟩ := rowB_t h
  have hz := sizeZ_t hr
  subst hx
  obtain ⟨(⟨rfl, rfl⟩ | ⟨rfl, rfl⟩ | ⟨rfl, rfl⟩), h1, h2, h3⟩ := rightB_t hr
  all_goals
    rw [atT, inB_i (by simp only [secZ]; omega) (by rw [hz]; simp only [secZ]; omega), cond_true]
  · rw [show rowZ 2 (secZ 2 s d) = s by simp only [rowZ, secZ]; omega, show secZ 2 s d / 2 % (2 - 1) = d by simp only [secZ]; omega]
  · rw [show rowZ 3 (secZ 3 s d) = s by simp only [rowZ, secZ]; omega, show secZ 3 s d / 2 % (3 - 1) = d by simp only [secZ]; omega]
  · rw [show rowZ 4 (secZ 4 s d) = s by simp only [rowZ, secZ]; omega, show secZ 4 s d / 2 % (4 - 1) = d by simp only [secZ]; omega]

theorem here (l m r s x : Int) : secT l m r s x = .tuple [.int .i64 0, .bool false] ∨ ∃ s2, secT l m r s x = .tuple [.int .i64 s2, .bool true] ∧ atT l m r s2 = .tuple [.int .i64 s, .int .i64 x, .bool true] := by
  cases h : rowB l m r s
  · exact .inl (by rw [secT, h]; rfl)
  rw [secT, h, cond_true]
  have hm : 2 ≤ m := by
    obtain ⟨(⟨rfl, rfl⟩ | ⟨rfl, rfl⟩ | ⟨rfl, rfl⟩), h1, h2, h3⟩ := rightB_t (rowB_t h).1 <;> decide
  by_cases a : x = datZ l m s 0
  · rw [if_pos a]; exact .inr ⟨_, rfl, back_at h (by omega) (by omega) a⟩
  rw [if_neg a]
  by_cases b : 3 ≤ m ∧ x = datZ l m s 1
  · rw [if_pos b]; exact .inr ⟨_, rfl, back_at h (by omega) (by omega) b.2⟩
  rw [if_neg b]
  by_cases c : 4 ≤ m ∧ x = datZ l m s 2
  · rw [if_pos c]; exact .inr ⟨_, rfl, back_at h (by omega) (by omega) c.2⟩
  rw [if_neg c]; exact .inl rfl

theorem back_walk (Y : Ys Prop) (l m r s row mem : Int) (K : V → Mem → Prop) (hK : ∀ mm, K (.bool true) mm) : body1 pA (callD pA tab0 last7 5) Y c5 [geo l m r, .int .i64 s, .int .i64 row, .int .i64 mem] ⟨0, .leaf⟩ K := by
  rcases here l m r row mem with b1 | ⟨s2, b1, b2⟩ <;> cases h : inB l m r s
  · exact back_00 Y l m r s row mem K (s12 (by rw [atT, h]; rfl)) (s18 b1) hK
  · obtain ⟨ro, me, p, a1, a2, a3, a4⟩ := there h
    exact back_10 Y l m r s row mem ro me p K (s12 a1) (s18 a2) (s16 a3) a4 (s18 b1) hK
  · exact back_01 Y l m r s row mem s2 K (s12 (by rw [atT, h]; rfl)) (s18 b1) (s12 b2) hK
  · obtain ⟨ro, me, p, a1, a2, a3, a4⟩ := there h
    exact back_11 Y l m r s row mem ro me p s2 K (s12 a1) (s18 a2) (s16 a3) a4 (s18 b1) (s12 b2) hK
end Go.Proofs.Ytefklpegpecliaa
