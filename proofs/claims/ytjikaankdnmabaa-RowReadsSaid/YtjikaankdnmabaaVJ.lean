/- The functions by what they answer, and the law by its cases. No condition. -/
import Derived.Test.YtjikaankdnmabaaVP
import Derived.Test.YtjikaankdnmabaaVW
import Derived.Test.YtjikaankdnmabaaVK
namespace Go.Proofs.Ytjikaankdnmabaa
open Go Go.AM
set_option maxRecDepth 100000
set_option maxHeartbeats 0
set_option linter.unusedVariables false
theorem may30_walk (Y : Ys Prop) (l m r s : Int) (b0 b1 b2 b3 : Bool) (K : V → Mem → Prop) (hK : ∀ mm, K (.int .i64 (mayE l m r s b0 b1 b2 b3)) mm) : body1 pA (callD pA tb0 la3 5) Y c30 [geo l m r, .int .i64 s, ag b0 b1 b2 b3] ⟨0, .leaf⟩ K := by
  cases ho : roB l m r s with
  | false => exact m30_n Y l m r s b0 b1 b2 b3 ho (pz_0 ho) K fun mm => by have h := hK mm; rw [show mayE l m r s b0 b1 b2 b3 = 1 by rw [mayE_eq, ho]; rfl] at h; exact h
  | true =>
  obtain ⟨g, s0, s1⟩ := ro_t.1 ho
  have h1 := g.1
  rcases h1 with ⟨rfl, rfl⟩ | ⟨rfl, rfl | rfl⟩
  · cases b0 with
    | false =>
      cases b1 with
      | false =>
        exact m30_2_0 Y r s b2 b3 ho K fun mm => by have h := hK mm; rw [show mayE 1 2 r s false false b2 b3 = 20 by rw [mayE_eq, if_pos ho]; rfl] at h; exact h
      | true =>
        exact m30_2_2 Y r s b2 b3 ho K fun mm => by have h := hK mm; rw [show mayE 1 2 r s false true b2 b3 = 0 by rw [mayE_eq, if_pos ho]; rfl] at h; exact h
    | true =>
      cases b1 with
      | false =>
        exact m30_2_1 Y r s b2 b3 ho K fun mm => by have h := hK mm; rw [show mayE 1 2 r s true false b2 b3 = 0 by rw [mayE_eq, if_pos ho]; rfl] at h; exact h
      | true =>
        exact m30_2_3 Y r s b2 b3 ho K fun mm => by have h := hK mm; rw [show mayE 1 2 r s true true b2 b3 = 0 by rw [mayE_eq, if_pos ho]; rfl] at h; exact h
  · cases b0 with
    | false =>
      cases b1 with
      | false =>
        cases b2 with
        | false =>
          exact m30_3_0 Y r s b3 ho K fun mm => by have h := hK mm; rw [show mayE 5 3 r s false false false b3 = 20 by rw [mayE_eq, if_pos ho]; rfl] at h; exact h
        | true =>
          exact m30_3_4 Y r s b3 ho K fun mm => by have h := hK mm; rw [show mayE 5 3 r s false false true b3 = 20 by rw [mayE_eq, if_pos ho]; rfl] at h; exact h
      | true =>
        cases b2 with
        | false =>
          exact m30_3_2 Y r s b3 ho K fun mm => by have h := hK mm; rw [show mayE 5 3 r s false true false b3 = 20 by rw [mayE_eq, if_pos ho]; rfl] at h; exact h
        | true =>
          exact m30_3_6 Y r s b3 ho K fun mm => by have h := hK mm; rw [show mayE 5 3 r s false true true b3 = 0 by rw [mayE_eq, if_pos ho]; rfl] at h; exact h
    | true =>
      cases b1 with
      | false =>
        cases b2 with
        | false =>
          exact m30_3_1 Y r s b3 ho K fun mm => by have h := hK mm; rw [show mayE 5 3 r s true false false b3 = 20 by rw [mayE_eq, if_pos ho]; rfl] at h; exact h
        | true =>
          exact m30_3_5 Y r s b3 ho K fun mm => by have h := hK mm; rw [show mayE 5 3 r s true false true b3 = 0 by rw [mayE_eq, if_pos ho]; rfl] at h; exact h
      | true =>
        cases b2 with
        | false =>
          exact m30_3_3 Y r s b3 ho K fun mm => by have h := hK mm; rw [show mayE 5 3 r s true true false b3 = 0 by rw [mayE_eq, if_pos ho]; rfl] at h; exact h
        | true =>
          exact m30_3_7 Y r s b3 ho K fun mm => by have h := hK mm; rw [show mayE 5 3 r s true true true b3 = 0 by rw [mayE_eq, if_pos ho]; rfl] at h; exact h
  · cases b0 with
    | false =>
      cases b1 with
      | false =>
        cases b2 with
        | false =>
          cases b3 with
          | false =>
            exact m30_4_0 Y r s  ho K fun mm => by have h := hK mm; rw [show mayE 5 4 r s false false false false = 20 by rw [mayE_eq, if_pos ho]; rfl] at h; exact h
          | true =>
            exact m30_4_8 Y r s  ho K fun mm => by have h := hK mm; rw [show mayE 5 4 r s false false false true = 20 by rw [mayE_eq, if_pos ho]; rfl] at h; exact h
        | true =>
          cases b3 with
          | false =>
            exact m30_4_4 Y r s  ho K fun mm => by have h := hK mm; rw [show mayE 5 4 r s false false true false = 20 by rw [mayE_eq, if_pos ho]; rfl] at h; exact h
          | true =>
            exact m30_4_12 Y r s  ho K fun mm => by have h := hK mm; rw [show mayE 5 4 r s false false true true = 20 by rw [mayE_eq, if_pos ho]; rfl] at h; exact h
      | true =>
        cases b2 with
        | false =>
          cases b3 with
          | false =>
            exact m30_4_2 Y r s  ho K fun mm => by have h := hK mm; rw [show mayE 5 4 r s false true false false = 20 by rw [mayE_eq, if_pos ho]; rfl] at h; exact h
          | true =>
            exact m30_4_10 Y r s  ho K fun mm => by have h := hK mm; rw [show mayE 5 4 r s false true false true = 20 by rw [mayE_eq, if_pos ho]; rfl] at h; exact h
        | true =>
          cases b3 with
          | false =>
            exact m30_4_6 Y r s  ho K fun mm => by have h := hK mm; rw [show mayE 5 4 r s false true true false = 20 by rw [mayE_eq, if_pos ho]; rfl] at h; exact h
          | true =>
            exact m30_4_14 Y r s  ho K fun mm => by have h := hK mm; rw [show mayE 5 4 r s false true true true = 0 by rw [mayE_eq, if_pos ho]; rfl] at h; exact h
    | true =>
      cases b1 with
      | false =>
        cases b2 with
        | false =>
          cases b3 with
          | false =>
            exact m30_4_1 Y r s  ho K fun mm => by have h := hK mm; rw [show mayE 5 4 r s true false false false = 20 by rw [mayE_eq, if_pos ho]; rfl] at h; exact h
          | true =>
            exact m30_4_9 Y r s  ho K fun mm => by have h := hK mm; rw [show mayE 5 4 r s true false false true = 20 by rw [mayE_eq, if_pos ho]; rfl] at h; exact h
        | true =>
          cases b3 with
          | false =>
            exact m30_4_5 Y r s  ho K fun mm => by have h := hK mm; rw [show mayE 5 4 r s true false true false = 20 by rw [mayE_eq, if_pos ho]; rfl] at h; exact h
          | true =>
            exact m30_4_13 Y r s  ho K fun mm => by have h := hK mm; rw [show mayE 5 4 r s true false true true = 0 by rw [mayE_eq, if_pos ho]; rfl] at h; exact h
      | true =>
        cases b2 with
        | false =>
          cases b3 with
          | false =>
            exact m30_4_3 Y r s  ho K fun mm => by have h := hK mm; rw [show mayE 5 4 r s true true false false = 20 by rw [mayE_eq, if_pos ho]; rfl] at h; exact h
          | true =>
            exact m30_4_11 Y r s  ho K fun mm => by have h := hK mm; rw [show mayE 5 4 r s true true false true = 0 by rw [mayE_eq, if_pos ho]; rfl] at h; exact h
        | true =>
          cases b3 with
          | false =>
            exact m30_4_7 Y r s  ho K fun mm => by have h := hK mm; rw [show mayE 5 4 r s true true true false = 0 by rw [mayE_eq, if_pos ho]; rfl] at h; exact h
          | true =>
            exact m30_4_15 Y r s  ho K fun mm => by have h := hK mm; rw [show mayE 5 4 r s true true true true = 0 by rw [mayE_eq, if_pos ho]; rfl] at h; exact h
theorem may39_walk (Y : Ys Prop) (l m r s : Int) (b0 b1 b2 b3 : Bool) (K : V → Mem → Prop) (hK : ∀ mm, K (.int .i64 (mayE l m r s b0 b1 b2 b3)) mm) : body1 pA (callD pA tb0 la57 5) Y c39 [geo l m r, .int .i64 s, ag b0 b1 b2 b3] ⟨0, .leaf⟩ K := by
  cases ho : roB l m r s with
  | false =>
    have e : mayE l m r s b0 b1 b2 b3 = 1 := by rw [mayE_eq, ho]; rfl
    have hK1 : ∀ mm, K (.int .i64 1) mm := fun mm => by have h := hK mm; rw [e] at h; exact h
    by_cases g : rgP l m r
    · by_cases s0 : s < 0
      · exact m39_n2 Y l m r s b0 b1 b2 b3 (rg_t g) s0 K hK1
      · by_cases s1 : r ≤ s
        · exact m39_n3 Y l m r s b0 b1 b2 b3 (rg_t g) (by omega) s1 K hK1
        · have hh := ro_t.2 (⟨g, by omega, by omega⟩ : rgP l m r ∧ 0 ≤ s ∧ s < r)
          rw [ho] at hh; cases hh
    · exact m39_n1 Y l m r s b0 b1 b2 b3 (rg_f g) K hK1
  | true =>
  obtain ⟨g, s0, s1⟩ := ro_t.1 ho
  have h1 := g.1
  rcases h1 with ⟨rfl, rfl⟩ | ⟨rfl, rfl | rfl⟩
  · cases b0 with
    | false =>
      cases b1 with
      | false =>
        exact m39_2_0 Y r s b2 b3 (rg_t g) s0 s1 K fun mm => by have h := hK mm; rw [show mayE 1 2 r s false false b2 b3 = 20 by rw [mayE_eq, if_pos ho]; rfl] at h; exact h
      | true =>
        exact m39_2_2 Y r s b2 b3 (rg_t g) s0 s1 K fun mm => by have h := hK mm; rw [show mayE 1 2 r s false true b2 b3 = 0 by rw [mayE_eq, if_pos ho]; rfl] at h; exact h
    | true =>
      cases b1 with
      | false =>
        exact m39_2_1 Y r s b2 b3 (rg_t g) s0 s1 K fun mm => by have h := hK mm; rw [show mayE 1 2 r s true false b2 b3 = 0 by rw [mayE_eq, if_pos ho]; rfl] at h; exact h
      | true =>
        exact m39_2_3 Y r s b2 b3 (rg_t g) s0 s1 K fun mm => by have h := hK mm; rw [show mayE 1 2 r s true true b2 b3 = 0 by rw [mayE_eq, if_pos ho]; rfl] at h; exact h
  · cases b0 with
    | false =>
      cases b1 with
      | false =>
        cases b2 with
        | false =>
          exact m39_3_0 Y r s b3 (rg_t g) s0 s1 K fun mm => by have h := hK mm; rw [show mayE 5 3 r s false false false b3 = 20 by rw [mayE_eq, if_pos ho]; rfl] at h; exact h
        | true =>
          exact m39_3_4 Y r s b3 (rg_t g) s0 s1 K fun mm => by have h := hK mm; rw [show mayE 5 3 r s false false true b3 = 20 by rw [mayE_eq, if_pos ho]; rfl] at h; exact h
      | true =>
        cases b2 with
        | false =>
          exact m39_3_2 Y r s b3 (rg_t g) s0 s1 K fun mm => by have h := hK mm; rw [show mayE 5 3 r s false true false b3 = 20 by rw [mayE_eq, if_pos ho]; rfl] at h; exact h
        | true =>
          exact m39_3_6 Y r s b3 (rg_t g) s0 s1 K fun mm => by have h := hK mm; rw [show mayE 5 3 r s false true true b3 = 0 by rw [mayE_eq, if_pos ho]; rfl] at h; exact h
    | true =>
      cases b1 with
      | false =>
        cases b2 with
        | false =>
          exact m39_3_1 Y r s b3 (rg_t g) s0 s1 K fun mm => by have h := hK mm; rw [show mayE 5 3 r s true false false b3 = 20 by rw [mayE_eq, if_pos ho]; rfl] at h; exact h
        | true =>
          exact m39_3_5 Y r s b3 (rg_t g) s0 s1 K fun mm => by have h := hK mm; rw [show mayE 5 3 r s true false true b3 = 0 by rw [mayE_eq, if_pos ho]; rfl] at h; exact h
      | true =>
        cases b2 with
        | false =>
          exact m39_3_3 Y r s b3 (rg_t g) s0 s1 K fun mm => by have h := hK mm; rw [show mayE 5 3 r s true true false b3 = 0 by rw [mayE_eq, if_pos ho]; rfl] at h; exact h
        | true =>
          exact m39_3_7 Y r s b3 (rg_t g) s0 s1 K fun mm => by have h := hK mm; rw [show mayE 5 3 r s true true true b3 = 0 by rw [mayE_eq, if_pos ho]; rfl] at h; exact h
  · cases b0 with
    | false =>
      cases b1 with
      | false =>
        cases b2 with
        | false =>
          cases b3 with
          | false =>
            exact m39_4_0 Y r s  (rg_t g) s0 s1 K fun mm => by have h := hK mm; rw [show mayE 5 4 r s false false false false = 20 by rw [mayE_eq, if_pos ho]; rfl] at h; exact h
          | true =>
            exact m39_4_8 Y r s  (rg_t g) s0 s1 K fun mm => by have h := hK mm; rw [show mayE 5 4 r s false false false true = 20 by rw [mayE_eq, if_pos ho]; rfl] at h; exact h
        | true =>
          cases b3 with
          | false =>
            exact m39_4_4 Y r s  (rg_t g) s0 s1 K fun mm => by have h := hK mm; rw [show mayE 5 4 r s false false true false = 20 by rw [mayE_eq, if_pos ho]; rfl] at h; exact h
          | true =>
            exact m39_4_12 Y r s  (rg_t g) s0 s1 K fun mm => by have h := hK mm; rw [show mayE 5 4 r s false false true true = 20 by rw [mayE_eq, if_pos ho]; rfl] at h; exact h
      | true =>
        cases b2 with
        | false =>
          cases b3 with
          | false =>
            exact m39_4_2 Y r s  (rg_t g) s0 s1 K fun mm => by have h := hK mm; rw [show mayE 5 4 r s false true false false = 20 by rw [mayE_eq, if_pos ho]; rfl] at h; exact h
          | true =>
            exact m39_4_10 Y r s  (rg_t g) s0 s1 K fun mm => by have h := hK mm; rw [show mayE 5 4 r s false true false true = 20 by rw [mayE_eq, if_pos ho]; rfl] at h; exact h
        | true =>
          cases b3 with
          | false =>
            exact m39_4_6 Y r s  (rg_t g) s0 s1 K fun mm => by have h := hK mm; rw [show mayE 5 4 r s false true true false = 20 by rw [mayE_eq, if_pos ho]; rfl] at h; exact h
          | true =>
            exact m39_4_14 Y r s  (rg_t g) s0 s1 K fun mm => by have h := hK mm; rw [show mayE 5 4 r s false true true true = 0 by rw [mayE_eq, if_pos ho]; rfl] at h; exact h
    | true =>
      cases b1 with
      | false =>
        cases b2 with
        | false =>
          cases b3 with
          | false =>
            exact m39_4_1 Y r s  (rg_t g) s0 s1 K fun mm => by have h := hK mm; rw [show mayE 5 4 r s true false false false = 20 by rw [mayE_eq, if_pos ho]; rfl] at h; exact h
          | true =>
            exact m39_4_9 Y r s  (rg_t g) s0 s1 K fun mm => by have h := hK mm; rw [show mayE 5 4 r s true false false true = 20 by rw [mayE_eq, if_pos ho]; rfl] at h; exact h
        | true =>
          cases b3 with
          | false =>
            exact m39_4_5 Y r s  (rg_t g) s0 s1 K fun mm => by have h := hK mm; rw [show mayE 5 4 r s true false true false = 20 by rw [mayE_eq, if_pos ho]; rfl] at h; exact h
          | true =>
            exact m39_4_13 Y r s  (rg_t g) s0 s1 K fun mm => by have h := hK mm; rw [show mayE 5 4 r s true false true true = 0 by rw [mayE_eq, if_pos ho]; rfl] at h; exact h
      | true =>
        cases b2 with
        | false =>
          cases b3 with
          | false =>
            exact m39_4_3 Y r s  (rg_t g) s0 s1 K fun mm => by have h := hK mm; rw [show mayE 5 4 r s true true false false = 20 by rw [mayE_eq, if_pos ho]; rfl] at h; exact h
          | true =>
            exact m39_4_11 Y r s  (rg_t g) s0 s1 K fun mm => by have h := hK mm; rw [show mayE 5 4 r s true true false true = 0 by rw [mayE_eq, if_pos ho]; rfl] at h; exact h
        | true =>
          cases b3 with
          | false =>
            exact m39_4_7 Y r s  (rg_t g) s0 s1 K fun mm => by have h := hK mm; rw [show mayE 5 4 r s true true true false = 0 by rw [mayE_eq, if_pos ho]; rfl] at h; exact h
          | true =>
            exact m39_4_15 Y r s  (rg_t g) s0 s1 K fun mm => by have h := hK mm; rw [show mayE 5 4 r s true true true true = 0 by rw [mayE_eq, if_pos ho]; rfl] at h; exact h
theorem ro_of_may {l m r s : Int} {b0 b1 b2 b3 : Bool} (h : mayE l m r s b0 b1 b2 b3 = 0) : roB l m r s = true := by
  cases ho : roB l m r s with
  | true => rfl
  | false => rw [mayE_eq, ho] at h; simp at h
theorem readsL_in {l m r s x : Int} {b0 b1 b2 b3 : Bool} (he : mayE l m r s b0 b1 b2 b3 = 0) (h0 : 0 ≤ x) (h1 : x < m) : readsL l m r s b0 b1 b2 b3 x = .new (.slice (readL m.toNat [b0, b1, b2, b3] x.toNat).length 1) (some [.int .i64 0]) (.cells (iL (readL m.toNat [b0, b1, b2, b3] x.toNat)) false) := by
  unfold readsL; rw [if_pos he, if_pos ⟨h0, h1⟩]
theorem reads19_walk (Y : Ys Prop) (l m r s x : Int) (b0 b1 b2 b3 : Bool) : body1 pA (callD pA tb0 la30 5) Y c19 [geo l m r, .int .i64 s, ag b0 b1 b2 b3, .int .i64 x] ⟨0, .leaf⟩ (endL (readsL l m r s b0 b1 b2 b3 x)) := by
  by_cases he : mayE l m r s b0 b1 b2 b3 = 0
  · by_cases h0 : x < 0
    · rw [show readsL l m r s b0 b1 b2 b3 x = .plain (.tuple [.nilslice, .int .i64 1]) by unfold readsL; rw [if_pos he, if_neg (by omega)]]
      exact r19_lo Y l m r s x b0 b1 b2 b3 he h0 _ fun _ => rfl
    · by_cases h1 : m ≤ x
      · rw [show readsL l m r s b0 b1 b2 b3 x = .plain (.tuple [.nilslice, .int .i64 1]) by unfold readsL; rw [if_pos he, if_neg (by omega)]]
        exact r19_hi Y l m r s x b0 b1 b2 b3 he (by omega) h1 _ fun _ => rfl
      · rw [readsL_in he (by omega) (by omega)]
        have g := (ro_t.1 (ro_of_may he)).1.1
        rcases g with ⟨rfl, rfl⟩ | ⟨rfl, rfl | rfl⟩
        · rcases (show x = 0 ∨ x = 1 by omega) with rfl | rfl
          · cases b0 with
            | false => exact r19_2_0n Y r s b1 b2 b3 he
            | true => exact r19_2_0y Y r s b1 b2 b3 he
          · cases b1 with
            | false => exact r19_2_1n Y r s b0 b2 b3 he
            | true => exact r19_2_1y Y r s b0 b2 b3 he
        · rcases (show x = 0 ∨ x = 1 ∨ x = 2 by omega) with rfl | rfl | rfl
          · cases b0 with
            | false => exact r19_3_0n Y r s b1 b2 b3 he
            | true => exact r19_3_0y Y r s b1 b2 b3 he
          · cases b1 with
            | false => exact r19_3_1n Y r s b0 b2 b3 he
            | true => exact r19_3_1y Y r s b0 b2 b3 he
          · cases b2 with
            | false => exact r19_3_2n Y r s b0 b1 b3 he
            | true => exact r19_3_2y Y r s b0 b1 b3 he
        · rcases (show x = 0 ∨ x = 1 ∨ x = 2 ∨ x = 3 by omega) with rfl | rfl | rfl | rfl
          · cases b0 with
            | false => exact r19_4_0n Y r s b1 b2 b3 he
            | true => exact r19_4_0y Y r s b1 b2 b3 he
          · cases b1 with
            | false => exact r19_4_1n Y r s b0 b2 b3 he
            | true => exact r19_4_1y Y r s b0 b2 b3 he
          · cases b2 with
            | false => exact r19_4_2n Y r s b0 b1 b3 he
            | true => exact r19_4_2y Y r s b0 b1 b3 he
          · cases b3 with
            | false => exact r19_4_3n Y r s b0 b1 b2 he
            | true => exact r19_4_3y Y r s b0 b1 b2 he
  · rw [show readsL l m r s b0 b1 b2 b3 x = .plain (.tuple [.nilslice, .int .i64 (mayE l m r s b0 b1 b2 b3)]) by unfold readsL; rw [if_neg he]]
    exact r19_e Y l m r s x b0 b1 b2 b3 _ he rfl _ fun _ => rfl
theorem reads20_walk (Y : Ys Prop) (l m r s x : Int) (b0 b1 b2 b3 : Bool) : body1 pA (callD pA tb0 la30 5) Y c20 [geo l m r, .int .i64 s, ag b0 b1 b2 b3, .int .i64 x] ⟨0, .leaf⟩ (endL (readsL l m r s b0 b1 b2 b3 x)) := by
  by_cases he : mayE l m r s b0 b1 b2 b3 = 0
  · by_cases h0 : x < 0
    · rw [show readsL l m r s b0 b1 b2 b3 x = .plain (.tuple [.nilslice, .int .i64 1]) by unfold readsL; rw [if_pos he, if_neg (by omega)]]
      exact r20_lo Y l m r s x b0 b1 b2 b3 he h0 _ fun _ => rfl
    · by_cases h1 : m ≤ x
      · rw [show readsL l m r s b0 b1 b2 b3 x = .plain (.tuple [.nilslice, .int .i64 1]) by unfold readsL; rw [if_pos he, if_neg (by omega)]]
        exact r20_hi Y l m r s x b0 b1 b2 b3 he (by omega) h1 _ fun _ => rfl
      · rw [readsL_in he (by omega) (by omega)]
        have g := (ro_t.1 (ro_of_may he)).1.1
        rcases g with ⟨rfl, rfl⟩ | ⟨rfl, rfl | rfl⟩
        · rcases (show x = 0 ∨ x = 1 by omega) with rfl | rfl
          · cases b0 with
            | false => exact r20_2_0n Y r s b1 b2 b3 he
            | true => exact r20_2_0y Y r s b1 b2 b3 he
          · cases b1 with
            | false => exact r20_2_1n Y r s b0 b2 b3 he
            | true => exact r20_2_1y Y r s b0 b2 b3 he
        · rcases (show x = 0 ∨ x = 1 ∨ x = 2 by omega) with rfl | rfl | rfl
          · cases b0 with
            | false => exact r20_3_0n Y r s b1 b2 b3 he
            | true => exact r20_3_0y Y r s b1 b2 b3 he
          · cases b1 with
            | false => exact r20_3_1n Y r s b0 b2 b3 he
            | true => exact r20_3_1y Y r s b0 b2 b3 he
          · cases b2 with
            | false => exact r20_3_2n Y r s b0 b1 b3 he
            | true => exact r20_3_2y Y r s b0 b1 b3 he
        · rcases (show x = 0 ∨ x = 1 ∨ x = 2 ∨ x = 3 by omega) with rfl | rfl | rfl | rfl
          · cases b0 with
            | false => exact r20_4_0n Y r s b1 b2 b3 he
            | true => exact r20_4_0y Y r s b1 b2 b3 he
          · cases b1 with
            | false => exact r20_4_1n Y r s b0 b2 b3 he
            | true => exact r20_4_1y Y r s b0 b2 b3 he
          · cases b2 with
            | false => exact r20_4_2n Y r s b0 b1 b3 he
            | true => exact r20_4_2y Y r s b0 b1 b3 he
          · cases b3 with
            | false => exact r20_4_3n Y r s b0 b1 b2 he
            | true => exact r20_4_3y Y r s b0 b1 b2 he
  · rw [show readsL l m r s b0 b1 b2 b3 x = .plain (.tuple [.nilslice, .int .i64 (mayE l m r s b0 b1 b2 b3)]) by unfold readsL; rw [if_neg he]]
    exact r20_e Y l m r s x b0 b1 b2 b3 _ he rfl _ fun _ => rfl
theorem plains_iL : ∀ l : List Int, plains (iL l) = true
  | [] => rfl
  | x :: l => by have := plains_iL l; simp only [iL, List.map_cons, plains, V.plain, Bool.true_and] at *; exact this
theorem readsL_plain (l m r s x : Int) (b0 b1 b2 b3 : Bool) : (readsL l m r s b0 b1 b2 b3 x).isPlain = true := by
  unfold readsL
  split
  · split
    · show (true && (!false && plains (iL _))) = true
      rw [plains_iL]; rfl
    · rfl
  · rfl
/-- How many a read reads. -/
theorem readL_len {l m r s x : Int} {b0 b1 b2 b3 : Bool} (he : mayE l m r s b0 b1 b2 b3 = 0) (h0 : 0 ≤ x) (h1 : x < m) : 1 ≤ (readL m.toNat [b0, b1, b2, b3] x.toNat).length ∧ (readL m.toNat [b0, b1, b2, b3] x.toNat).length ≤ 3 := by
  have g := (ro_t.1 (ro_of_may he)).1.1
  have hm : m = 2 ∨ m = 3 ∨ m = 4 := by omega
  have hx : x = 0 ∨ x = 1 ∨ x = 2 ∨ x = 3 := by omega
  rcases hm with rfl | rfl | rfl <;> rcases hx with rfl | rfl | rfl | rfl <;> first | omega | (cases b0 <;> cases b1 <;> cases b2 <;> cases b3 <;> decide)
/-- What is told of some members' sectors. -/
def valX (xs : List Int) (L : List (Int × List Nat × Nat)) : List Nat × Int := if ∀ y ∈ xs, (lookG L y).length = 64 then (sumG (xs.map (lookG L)), 0) else ([], 1)
theorem valF_in {l m r s x : Int} {b0 b1 b2 b3 : Bool} (he : mayE l m r s b0 b1 b2 b3 = 0) (h0 : 0 ≤ x) (h1 : x < m) (L : List (Int × List Nat × Nat)) : valF l m r s b0 b1 b2 b3 x L = valX (readL m.toNat [b0, b1, b2, b3] x.toNat) L := by
  unfold valF valX; rw [if_pos he, if_pos ⟨h0, h1⟩]
/-- A read's outcomes: an error, or some members. -/
theorem reads_cases (l m r s x : Int) (b0 b1 b2 b3 : Bool) : (∃ e : Int, e ≠ 0 ∧ S19s [geo l m r, .int .i64 s, ag b0 b1 b2 b3, .int .i64 x] = some (.plain (.tuple [.nilslice, .int .i64 e])) ∧ ∀ L, valF l m r s b0 b1 b2 b3 x L = ([], e)) ∨
    ∃ xs : List Int, 1 ≤ xs.length ∧ xs.length ≤ 3 ∧ S19s [geo l m r, .int .i64 s, ag b0 b1 b2 b3, .int .i64 x] = some (.new (.slice xs.length 1) (some [.int .i64 0]) (.cells (iL xs) false)) ∧ ∀ L, valF l m r s b0 b1 b2 b3 x L = valX xs L := by
  have h19 : S19s [geo l m r, .int .i64 s, ag b0 b1 b2 b3, .int .i64 x] = some (readsL l m r s b0 b1 b2 b3 x) := by rw [S19s_eq]; rfl
  by_cases he : mayE l m r s b0 b1 b2 b3 = 0
  · by_cases hx : 0 ≤ x ∧ x < m
    · refine .inr ⟨readL m.toNat [b0, b1, b2, b3] x.toNat, (readL_len he hx.1 hx.2).1, (readL_len he hx.1 hx.2).2, ?_, valF_in he hx.1 hx.2⟩
      rw [h19, readsL_in he hx.1 hx.2]
    · refine .inl ⟨1, by decide, ?_, fun L => ?_⟩
      · rw [h19]; unfold readsL; rw [if_pos he, if_neg hx]
      · unfold valF; rw [if_pos he, if_neg hx]
  · refine .inl ⟨_, he, ?_, fun L => ?_⟩
    · rw [h19]; unfold readsL; rw [if_neg he]
    · unfold valF; rw [if_neg he]
theorem val21_in (Y : Ys Prop) (l m r s x : Int) (b0 b1 b2 b3 : Bool) (L : List (Int × List Nat × Nat)) (c : Nat) (ro : Bool) : ∀ xs : List Int, 1 ≤ xs.length → xs.length ≤ 3 → S19s [geo l m r, .int .i64 s, ag b0 b1 b2 b3, .int .i64 x] = some (.new (.slice xs.length 1) (some [.int .i64 0]) (.cells (iL xs) false)) →
    body1 pA (callD pA tbV la21 6) Y c21 [geo l m r, .int .i64 s, ag b0 b1 b2 b3, .int .i64 x, .map 0] (memO [.map (mV L) c ro]) (endC ⟨[geo l m r, .int .i64 s, ag b0 b1 b2 b3, .int .i64 x, .map 0], [.map (mV L) c ro], .tuple [.str (valX xs L).1, .int .i64 (valX xs L).2], [.map (mV L) c ro], []⟩)
  | [x0], _, _, h => by
    by_cases z0 : (lookG L x0).length = 64
    ·
      have e : valX [x0] L = (sumG [lookG L x0], 0) := if_pos (by intro y hy; simp only [List.mem_cons, List.not_mem_nil, or_false] at hy; rcases hy with rfl <;> assumption)
      rw [e]
      exact v21_1_ok Y l m r s x b0 b1 b2 b3 L c ro x0 h _ _ (look_G L x0) z0 (S28.mk [lookG L x0] (by intro y hy; simp only [List.mem_cons, List.not_mem_nil, or_false] at hy; rcases hy with rfl <;> assumption) (by simp) (by simp))
    ·
      have e : valX [x0] L = ([], 1) := if_neg (fun h => z0 (h x0 (by simp)))
      rw [e]
      exact v21_1_b0 Y l m r s x b0 b1 b2 b3 L c ro x0 h _ (look_G L x0) z0
  | [x0, x1], _, _, h => by
    by_cases z0 : (lookG L x0).length = 64
    ·
      by_cases z1 : (lookG L x1).length = 64
      ·
        have e : valX [x0, x1] L = (sumG [lookG L x0, lookG L x1], 0) := if_pos (by intro y hy; simp only [List.mem_cons, List.not_mem_nil, or_false] at hy; rcases hy with rfl | rfl <;> assumption)
        rw [e]
        exact v21_2_ok Y l m r s x b0 b1 b2 b3 L c ro x0 x1 h _ _ _ (look_G L x0) (look_G L x1) z0 z1 (S28.mk [lookG L x0, lookG L x1] (by intro y hy; simp only [List.mem_cons, List.not_mem_nil, or_false] at hy; rcases hy with rfl | rfl <;> assumption) (by simp) (by simp))
      ·
        have e : valX [x0, x1] L = ([], 1) := if_neg (fun h => z1 (h x1 (by simp)))
        rw [e]
        exact v21_2_b1 Y l m r s x b0 b1 b2 b3 L c ro x0 x1 h _ _ (look_G L x0) (look_G L x1) z0 z1
    ·
      have e : valX [x0, x1] L = ([], 1) := if_neg (fun h => z0 (h x0 (by simp)))
      rw [e]
      exact v21_2_b0 Y l m r s x b0 b1 b2 b3 L c ro x0 x1 h _ _ (look_G L x0) (look_G L x1) z0
  | [x0, x1, x2], _, _, h => by
    by_cases z0 : (lookG L x0).length = 64
    ·
      by_cases z1 : (lookG L x1).length = 64
      ·
        by_cases z2 : (lookG L x2).length = 64
        ·
          have e : valX [x0, x1, x2] L = (sumG [lookG L x0, lookG L x1, lookG L x2], 0) := if_pos (by intro y hy; simp only [List.mem_cons, List.not_mem_nil, or_false] at hy; rcases hy with rfl | rfl | rfl <;> assumption)
          rw [e]
          exact v21_3_ok Y l m r s x b0 b1 b2 b3 L c ro x0 x1 x2 h _ _ _ _ (look_G L x0) (look_G L x1) (look_G L x2) z0 z1 z2 (S28.mk [lookG L x0, lookG L x1, lookG L x2] (by intro y hy; simp only [List.mem_cons, List.not_mem_nil, or_false] at hy; rcases hy with rfl | rfl | rfl <;> assumption) (by simp) (by simp))
        ·
          have e : valX [x0, x1, x2] L = ([], 1) := if_neg (fun h => z2 (h x2 (by simp)))
          rw [e]
          exact v21_3_b2 Y l m r s x b0 b1 b2 b3 L c ro x0 x1 x2 h _ _ _ (look_G L x0) (look_G L x1) (look_G L x2) z0 z1 z2
      ·
        have e : valX [x0, x1, x2] L = ([], 1) := if_neg (fun h => z1 (h x1 (by simp)))
        rw [e]
        exact v21_3_b1 Y l m r s x b0 b1 b2 b3 L c ro x0 x1 x2 h _ _ _ (look_G L x0) (look_G L x1) (look_G L x2) z0 z1
    ·
      have e : valX [x0, x1, x2] L = ([], 1) := if_neg (fun h => z0 (h x0 (by simp)))
      rw [e]
      exact v21_3_b0 Y l m r s x b0 b1 b2 b3 L c ro x0 x1 x2 h _ _ _ (look_G L x0) (look_G L x1) (look_G L x2) z0
  | [], h1, _, _ => absurd h1 (by simp)
  | _ :: _ :: _ :: _ :: _, _, h3, _ => absurd h3 (by simp)
theorem val21_nil (Y : Ys Prop) (l m r s x : Int) (b0 b1 b2 b3 : Bool) : ∀ xs : List Int, 1 ≤ xs.length → xs.length ≤ 3 → S19s [geo l m r, .int .i64 s, ag b0 b1 b2 b3, .int .i64 x] = some (.new (.slice xs.length 1) (some [.int .i64 0]) (.cells (iL xs) false)) →
    body1 pA (callD pA tbV la21 6) Y c21 [geo l m r, .int .i64 s, ag b0 b1 b2 b3, .int .i64 x, .nilmap] (memO []) (endC ⟨[geo l m r, .int .i64 s, ag b0 b1 b2 b3, .int .i64 x, .nilmap], [], .tuple [.str (valX xs []).1, .int .i64 (valX xs []).2], [], []⟩)
  | [x0], _, _, h => by
    have e : valX [x0] [] = ([], 1) := if_neg (fun h => absurd (h x0 (by simp)) (by simp [lookG]))
    rw [e]
    exact v210_1 Y l m r s x b0 b1 b2 b3 x0 h
  | [x0, x1], _, _, h => by
    have e : valX [x0, x1] [] = ([], 1) := if_neg (fun h => absurd (h x0 (by simp)) (by simp [lookG]))
    rw [e]
    exact v210_2 Y l m r s x b0 b1 b2 b3 x0 x1 h
  | [x0, x1, x2], _, _, h => by
    have e : valX [x0, x1, x2] [] = ([], 1) := if_neg (fun h => absurd (h x0 (by simp)) (by simp [lookG]))
    rw [e]
    exact v210_3 Y l m r s x b0 b1 b2 b3 x0 x1 x2 h
  | [], h1, _, _ => absurd h1 (by simp)
  | _ :: _ :: _ :: _ :: _, _, h3, _ => absurd h3 (by simp)
theorem val22_in (Y : Ys Prop) (l m r s x : Int) (b0 b1 b2 b3 : Bool) (L : List (Int × List Nat × Nat)) (c : Nat) (ro : Bool) : ∀ xs : List Int, 1 ≤ xs.length → xs.length ≤ 3 → S19s [geo l m r, .int .i64 s, ag b0 b1 b2 b3, .int .i64 x] = some (.new (.slice xs.length 1) (some [.int .i64 0]) (.cells (iL xs) false)) →
    body1 pA (callD pA tbV la21 6) Y c22 [geo l m r, .int .i64 s, ag b0 b1 b2 b3, .int .i64 x, .map 0] (memO [.map (mV L) c ro]) (endC ⟨[geo l m r, .int .i64 s, ag b0 b1 b2 b3, .int .i64 x, .map 0], [.map (mV L) c ro], .tuple [.str (valX xs L).1, .int .i64 (valX xs L).2], [.map (mV L) c ro], []⟩)
  | [x0], _, _, h => by
    by_cases z0 : (lookG L x0).length = 64
    ·
      have e : valX [x0] L = (sumG [lookG L x0], 0) := if_pos (by intro y hy; simp only [List.mem_cons, List.not_mem_nil, or_false] at hy; rcases hy with rfl <;> assumption)
      rw [e]
      exact v22_1_ok Y l m r s x b0 b1 b2 b3 L c ro x0 h _ _ (look_G L x0) z0 (S46.mk [lookG L x0] (by intro y hy; simp only [List.mem_cons, List.not_mem_nil, or_false] at hy; rcases hy with rfl <;> assumption) (by simp) (by simp))
    ·
      have e : valX [x0] L = ([], 1) := if_neg (fun h => z0 (h x0 (by simp)))
      rw [e]
      exact v22_1_b0 Y l m r s x b0 b1 b2 b3 L c ro x0 h _ (look_G L x0) z0
  | [x0, x1], _, _, h => by
    by_cases z0 : (lookG L x0).length = 64
    ·
      by_cases z1 : (lookG L x1).length = 64
      ·
        have e : valX [x0, x1] L = (sumG [lookG L x0, lookG L x1], 0) := if_pos (by intro y hy; simp only [List.mem_cons, List.not_mem_nil, or_false] at hy; rcases hy with rfl | rfl <;> assumption)
        rw [e]
        exact v22_2_ok Y l m r s x b0 b1 b2 b3 L c ro x0 x1 h _ _ _ (look_G L x0) (look_G L x1) z0 z1 (S46.mk [lookG L x0, lookG L x1] (by intro y hy; simp only [List.mem_cons, List.not_mem_nil, or_false] at hy; rcases hy with rfl | rfl <;> assumption) (by simp) (by simp))
      ·
        have e : valX [x0, x1] L = ([], 1) := if_neg (fun h => z1 (h x1 (by simp)))
        rw [e]
        exact v22_2_b1 Y l m r s x b0 b1 b2 b3 L c ro x0 x1 h _ _ (look_G L x0) (look_G L x1) z0 z1
    ·
      have e : valX [x0, x1] L = ([], 1) := if_neg (fun h => z0 (h x0 (by simp)))
      rw [e]
      exact v22_2_b0 Y l m r s x b0 b1 b2 b3 L c ro x0 x1 h _ _ (look_G L x0) (look_G L x1) z0
  | [x0, x1, x2], _, _, h => by
    by_cases z0 : (lookG L x0).length = 64
    ·
      by_cases z1 : (lookG L x1).length = 64
      ·
        by_cases z2 : (lookG L x2).length = 64
        ·
          have e : valX [x0, x1, x2] L = (sumG [lookG L x0, lookG L x1, lookG L x2], 0) := if_pos (by intro y hy; simp only [List.mem_cons, List.not_mem_nil, or_false] at hy; rcases hy with rfl | rfl | rfl <;> assumption)
          rw [e]
          exact v22_3_ok Y l m r s x b0 b1 b2 b3 L c ro x0 x1 x2 h _ _ _ _ (look_G L x0) (look_G L x1) (look_G L x2) z0 z1 z2 (S46.mk [lookG L x0, lookG L x1, lookG L x2] (by intro y hy; simp only [List.mem_cons, List.not_mem_nil, or_false] at hy; rcases hy with rfl | rfl | rfl <;> assumption) (by simp) (by simp))
        ·
          have e : valX [x0, x1, x2] L = ([], 1) := if_neg (fun h => z2 (h x2 (by simp)))
          rw [e]
          exact v22_3_b2 Y l m r s x b0 b1 b2 b3 L c ro x0 x1 x2 h _ _ _ (look_G L x0) (look_G L x1) (look_G L x2) z0 z1 z2
      ·
        have e : valX [x0, x1, x2] L = ([], 1) := if_neg (fun h => z1 (h x1 (by simp)))
        rw [e]
        exact v22_3_b1 Y l m r s x b0 b1 b2 b3 L c ro x0 x1 x2 h _ _ _ (look_G L x0) (look_G L x1) (look_G L x2) z0 z1
    ·
      have e : valX [x0, x1, x2] L = ([], 1) := if_neg (fun h => z0 (h x0 (by simp)))
      rw [e]
      exact v22_3_b0 Y l m r s x b0 b1 b2 b3 L c ro x0 x1 x2 h _ _ _ (look_G L x0) (look_G L x1) (look_G L x2) z0
  | [], h1, _, _ => absurd h1 (by simp)
  | _ :: _ :: _ :: _ :: _, _, h3, _ => absurd h3 (by simp)
theorem val22_nil (Y : Ys Prop) (l m r s x : Int) (b0 b1 b2 b3 : Bool) : ∀ xs : List Int, 1 ≤ xs.length → xs.length ≤ 3 → S19s [geo l m r, .int .i64 s, ag b0 b1 b2 b3, .int .i64 x] = some (.new (.slice xs.length 1) (some [.int .i64 0]) (.cells (iL xs) false)) →
    body1 pA (callD pA tbV la21 6) Y c22 [geo l m r, .int .i64 s, ag b0 b1 b2 b3, .int .i64 x, .nilmap] (memO []) (endC ⟨[geo l m r, .int .i64 s, ag b0 b1 b2 b3, .int .i64 x, .nilmap], [], .tuple [.str (valX xs []).1, .int .i64 (valX xs []).2], [], []⟩)
  | [x0], _, _, h => by
    have e : valX [x0] [] = ([], 1) := if_neg (fun h => absurd (h x0 (by simp)) (by simp [lookG]))
    rw [e]
    exact v220_1 Y l m r s x b0 b1 b2 b3 x0 h
  | [x0, x1], _, _, h => by
    have e : valX [x0, x1] [] = ([], 1) := if_neg (fun h => absurd (h x0 (by simp)) (by simp [lookG]))
    rw [e]
    exact v220_2 Y l m r s x b0 b1 b2 b3 x0 x1 h
  | [x0, x1, x2], _, _, h => by
    have e : valX [x0, x1, x2] [] = ([], 1) := if_neg (fun h => absurd (h x0 (by simp)) (by simp [lookG]))
    rw [e]
    exact v220_3 Y l m r s x b0 b1 b2 b3 x0 x1 x2 h
  | [], h1, _, _ => absurd h1 (by simp)
  | _ :: _ :: _ :: _ :: _, _, h3, _ => absurd h3 (by simp)
theorem wf8 (L : List (Int × List Nat × Nat)) (c : Nat) (b : Bool) : Con.wf ⟨[.map 0], [.map (mV L) c true], .bool b, [.map (mV L) c true], []⟩ = true := by
  simp only [Con.wf, bels, V.bel, Con.p0, List.length_cons, List.length_nil, List.all_cons, List.all_nil, AObj.bel, ebels_mV, AObj.live, Bool.and_true, nodupN, Bool.and_self]
  rfl
theorem wf21 (l m r s x : Int) (b0 b1 b2 b3 : Bool) (L : List (Int × List Nat × Nat)) (c : Nat) (X : List Nat) (e : Int) : Con.wf ⟨[geo l m r, .int .i64 s, ag b0 b1 b2 b3, .int .i64 x, .map 0], [.map (mV L) c true], .tuple [.str X, .int .i64 e], [.map (mV L) c true], []⟩ = true := by
  simp only [Con.wf, bels, V.bel, Con.p0, List.length_cons, List.length_nil, List.all_cons, List.all_nil, AObj.bel, ebels_mV, AObj.live, Bool.and_true, nodupN, Bool.and_self]
  rfl
theorem law5_in (Y : Ys Prop) (l m r s x : Int) (b0 b1 b2 b3 : Bool) (L : List (Int × List Nat × Nat)) (c : Nat) (h8 : S8 ⟨[.map 0], [.map (mV L) c true], .bool false, [.map (mV L) c true], []⟩) (X : List Nat) (e : Int) (h21 : S21 ⟨[geo l m r, .int .i64 s, ag b0 b1 b2 b3, .int .i64 x, .map 0], [.map (mV L) c true], .tuple [.str X, .int .i64 e], [.map (mV L) c true], []⟩) : ∀ xs : List Int, 1 ≤ xs.length → xs.length ≤ 3 → S19s [geo l m r, .int .i64 s, ag b0 b1 b2 b3, .int .i64 x] = some (.new (.slice xs.length 1) (some [.int .i64 0]) (.cells (iL xs) false)) →
    body1 pA (callD pA tb14 la5 5) Y c5 [geo l m r, .int .i64 s, ag b0 b1 b2 b3, .int .i64 x, .map 0] (memO [.map (mV L) c true]) (endC ⟨[geo l m r, .int .i64 s, ag b0 b1 b2 b3, .int .i64 x, .map 0], [.map (mV L) c true], .bool true, [.map (mV L) c true], []⟩)
  | [x0], _, _, h => law5_1 Y l m r s x b0 b1 b2 b3 L c h8 (wf8 L c false) X e (beqL_self X) h21 (wf21 l m r s x b0 b1 b2 b3 L c X e) x0 h
  | [x0, x1], _, _, h => law5_2 Y l m r s x b0 b1 b2 b3 L c h8 (wf8 L c false) X e (beqL_self X) h21 (wf21 l m r s x b0 b1 b2 b3 L c X e) x0 x1 h
  | [x0, x1, x2], _, _, h => law5_3 Y l m r s x b0 b1 b2 b3 L c h8 (wf8 L c false) X e (beqL_self X) h21 (wf21 l m r s x b0 b1 b2 b3 L c X e) x0 x1 x2 h
  | [], h1, _, _ => absurd h1 (by simp)
  | _ :: _ :: _ :: _ :: _, _, h3, _ => absurd h3 (by simp)
theorem law50_in (Y : Ys Prop) (l m r s x : Int) (b0 b1 b2 b3 : Bool) (h8 : S8 ⟨[.nilmap], [], .bool false, [], []⟩) (X : List Nat) (e : Int) (h21 : S21 ⟨[geo l m r, .int .i64 s, ag b0 b1 b2 b3, .int .i64 x, .nilmap], [], .tuple [.str X, .int .i64 e], [], []⟩) : ∀ xs : List Int, 1 ≤ xs.length → xs.length ≤ 3 → S19s [geo l m r, .int .i64 s, ag b0 b1 b2 b3, .int .i64 x] = some (.new (.slice xs.length 1) (some [.int .i64 0]) (.cells (iL xs) false)) →
    body1 pA (callD pA tb14 la5 5) Y c5 [geo l m r, .int .i64 s, ag b0 b1 b2 b3, .int .i64 x, .nilmap] (memO []) (endC ⟨[geo l m r, .int .i64 s, ag b0 b1 b2 b3, .int .i64 x, .nilmap], [], .bool true, [], []⟩)
  | [x0], _, _, h => law50_1 Y l m r s x b0 b1 b2 b3 h8 X e (beqL_self X) h21 x0 h
  | [x0, x1], _, _, h => law50_2 Y l m r s x b0 b1 b2 b3 h8 X e (beqL_self X) h21 x0 x1 h
  | [x0, x1, x2], _, _, h => law50_3 Y l m r s x b0 b1 b2 b3 h8 X e (beqL_self X) h21 x0 x1 x2 h
  | [], h1, _, _ => absurd h1 (by simp)
  | _ :: _ :: _ :: _ :: _, _, h3, _ => absurd h3 (by simp)
theorem law5_walk (Y : Ys Prop) (l m r s x : Int) (b0 b1 b2 b3 : Bool) (L : List (Int × List Nat × Nat)) (c : Nat) (h : ∀ y ∈ L, y.2.2 < c) (hn : (L.map fun y => y.2.2).Nodup) :
    body1 pA (callD pA tb14 la5 5) Y c5 [geo l m r, .int .i64 s, ag b0 b1 b2 b3, .int .i64 x, .map 0] (memO [.map (mV L) c true]) (endC ⟨[geo l m r, .int .i64 s, ag b0 b1 b2 b3, .int .i64 x, .map 0], [.map (mV L) c true], .bool true, [.map (mV L) c true], []⟩) := by
  have h8 := S8.mk L c true h hn
  cases hg : greatB L with
  | true => rw [hg] at h8; exact law5_g Y l m r s x b0 b1 b2 b3 L c h8 (wf8 L c true)
  | false =>
    rw [hg] at h8
    have h21 := S21.mk l m r s b0 b1 b2 b3 x L c true
    rcases reads_cases l m r s x b0 b1 b2 b3 with ⟨e, he, h19, hv⟩ | ⟨xs, x1, x3, h19, hv⟩
    · exact law5_e Y l m r s x b0 b1 b2 b3 L c h8 (wf8 L c false) _ _ (beqL_self _) h21 (wf21 _ _ _ _ _ _ _ _ _ _ _ _ _) e h19
    · exact law5_in Y l m r s x b0 b1 b2 b3 L c h8 _ _ h21 xs x1 x3 h19
theorem law50_walk (Y : Ys Prop) (l m r s x : Int) (b0 b1 b2 b3 : Bool) :
    body1 pA (callD pA tb14 la5 5) Y c5 [geo l m r, .int .i64 s, ag b0 b1 b2 b3, .int .i64 x, .nilmap] (memO []) (endC ⟨[geo l m r, .int .i64 s, ag b0 b1 b2 b3, .int .i64 x, .nilmap], [], .bool true, [], []⟩) := by
  have h21 := S21.nil l m r s b0 b1 b2 b3 x
  rcases reads_cases l m r s x b0 b1 b2 b3 with ⟨e, he, h19, hv⟩ | ⟨xs, x1, x3, h19, hv⟩
  · exact law50_e Y l m r s x b0 b1 b2 b3 S8.nil _ _ (beqL_self _) h21 e h19
  · exact law50_in Y l m r s x b0 b1 b2 b3 S8.nil _ _ h21 xs x1 x3 h19
theorem great_walk (Y : Ys Prop) (L : List (Int × List Nat × Nat)) (c : Nat) (ro : Bool) (h : ∀ y ∈ L, y.2.2 < c) (hn : (L.map fun y => y.2.2).Nodup) :
    body1 pA (callD pA tb0 la0 5) Y c8 [.map 0] (memO [.map (mV L) c ro]) (endC ⟨[.map 0], [.map (mV L) c ro], .bool (greatB L), [.map (mV L) c ro], []⟩) := by
  by_cases h20 : 20 < L.length
  · have e : greatB L = true := by unfold greatB; rw [decide_eq_true h20]; rfl
    rw [e]
    exact g_big Y L c ro (by rw [mV_length]; exact h20)
  · have hle : (mV L).length ≤ 20 := by rw [mV_length]; omega
    have hs : Stamped (mV L) c := ⟨fun y hy => by obtain ⟨z, hz, rfl⟩ := mV_mem hy; exact h z hz, by rw [mV_stamps]; exact hn, by unfold rounds; omega⟩
    have hb : ∀ (vis : List En) (y : En), (memL 2 [(0, .map (mV L) c ro), (1, itO 0 c vis)]).set 1 (itO1 0 c vis y.2.2) = memL 2 [(0, .map (mV L) c ro), (1, itO1 0 c vis y.2.2)] := fun _ _ => rfl
    by_cases hbad : ∃ y ∈ mV L, ∃ s, y.2.1 = .str s ∧ 200 < s.length
    · have e : greatB L = true := by
        obtain ⟨y, hy, s, h1, h2⟩ := hbad
        obtain ⟨z, hz, rfl⟩ := mV_mem hy
        cases h1
        unfold greatB
        rw [Bool.or_eq_true]
        exact .inr (List.any_eq_true.2 ⟨z, hz, decide_eq_true h2⟩)
      rw [e]
      refine g_yes Y L c ro hle ?_
      rw [c8l0_eq]
      refine rangeX hs (fun y => ∃ s, y.2.1 = .str s ∧ 200 < s.length) (fun vis => memL 2 [(0, .map (mV L) c ro), (1, itO 0 c vis)]) (fun vis y => memL 2 [(0, .map (mV L) c ro), (1, itO1 0 c vis y.2.2)]) (fun _ => [(s9, .ptr 1 0)]) (by intro h; cases h) _ _
        (fun _ => rfl) (fun _ => rfl) hb (fun _ _ hT => hT.1) (fun _ => ⟨rfl, rfl⟩) (fun Y vis y T _ hy _ hnb hT K hK => ?_) (fun Y vis y T _ hy _ hbd hT K hK => ?_) hbad
      · obtain ⟨z, hz, rfl⟩ := mV_mem hy
        refine g_s Y L c z.2.2 (stamps vis) ro z.1 z.2.1 (entry_ok hs hy _ _) (Nat.not_lt.1 fun hh => hnb ⟨_, rfl, hh⟩) T hT K fun T' hT' => ?_
        have := hK T' hT'
        rw [show itO 0 c (vis ++ [(V.int .i64 z.1, V.str z.2.1, z.2.2)]) = .iter (some 0) c (stamps vis ++ [z.2.2]) c by unfold itO; rw [stamps_app]] at this
        exact this
      · obtain ⟨z, hz, rfl⟩ := mV_mem hy
        obtain ⟨s, h1, h2⟩ := hbd
        cases h1
        refine g_x Y L c z.2.2 (stamps vis) ro z.1 z.2.1 (entry_ok hs hy _ _) h2 T hT K fun T' hT' => ?_
        have := hK T' hT'
        rw [stamps_app] at this
        exact this
    · have e : greatB L = false := by
        unfold greatB
        rw [decide_eq_false h20, Bool.false_or]
        refine Bool.eq_false_iff.2 fun hh => ?_
        obtain ⟨z, hz, h2⟩ := List.any_eq_true.1 hh
        exact hbad ⟨_, mem_mV hz, _, rfl, of_decide_eq_true h2⟩
      rw [e]
      refine g_no Y L c ro hle ?_
      rw [c8l0_eq]
      intro Y T hT K hK
      refine rangeL hs (fun vis => memL 2 [(0, .map (mV L) c ro), (1, itO 0 c vis)]) (fun vis y => memL 2 [(0, .map (mV L) c ro), (1, itO1 0 c vis y.2.2)]) (fun _ => [(s9, .ptr 1 0)])
        (fun _ => rfl) (fun _ => rfl) hb (fun _ _ hT => hT.1) (fun _ => ⟨rfl, rfl⟩) (fun Y vis y T _ hy _ hT K hK => ?_) Y T hT K (fun v hv T' hT' => hK v hv T' trivial)
      obtain ⟨z, hz, rfl⟩ := mV_mem hy
      refine g_s Y L c z.2.2 (stamps vis) ro z.1 z.2.1 (entry_ok hs hy _ _) (Nat.not_lt.1 fun hh => hbad ⟨_, hy, _, rfl, hh⟩) T hT K fun T' hT' => ?_
      have := hK T' hT'
      rw [show itO 0 c (vis ++ [(V.int .i64 z.1, V.str z.2.1, z.2.2)]) = .iter (some 0) c (stamps vis ++ [z.2.2]) c by unfold itO; rw [stamps_app]] at this
      exact this
section
variable {P : Program}
variable (hmix : P.follows .mixedOrders = true)
include hmix
theorem la57_ok (o57 : FOk P 57 c57) : LastOk P la57 id := lastFn_ok (callable_fok o57) (fun ρ args args' v hv ha => by
  unfold R61 at hv; split at hv
  · cases hv; exact answers_of_walk hmix o57 (callD_sound pHolds hmix tb0_ok la0_ok 5) ha rfl rfl (fun K hK => xright _ _ _ _ K hK)
  · cases hv) la0_ok
theorem la30_ok (l3 : LastOk P la3 id) (l57 : LastOk P la57 id) (o30 : FOk P 30 c30) (o39 : FOk P 39 c39) : LastOk P la30 id :=
  lastFn_ok (callable_fok o30) (fun ρ args args' v hv ha => by
    unfold R30 at hv; split at hv
    · cases hv; exact answers_of_walk hmix o30 (callD_sound pHolds hmix tb0_ok l3 5) ha rfl rfl (fun K hK => may30_walk _ _ _ _ _ _ _ _ _ K hK)
    · cases hv) (lastFn_ok (callable_fok o39) (fun ρ args args' v hv ha => by
    unfold R30 at hv; split at hv
    · cases hv; exact answers_of_walk hmix o39 (callD_sound pHolds hmix tb0_ok l57 5) ha rfl rfl (fun K hK => may39_walk _ _ _ _ _ _ _ _ _ K hK)
    · cases hv) la0_ok)
theorem lr_ok (l30 : LastOk P la30 id) (o19 : FOk P 19 c19) (o20 : FOk P 20 c20) : LastOk P (lastL 19 S19s (lastL 20 S19s la0)) id :=
  lastL_ok (callable_fok o19) (fun ρ args args' L hv ha => by
    rw [S19s_eq] at hv; unfold S19 at hv; split at hv
    · cases hv; exact ⟨readsL_plain _ _ _ _ _ _ _ _ _, answersL_walk hmix o19 (callD_sound pHolds hmix tb0_ok l30 5) ha rfl (readsL_plain _ _ _ _ _ _ _ _ _) (reads19_walk _ _ _ _ _ _ _ _ _ _)⟩
    · cases hv) (lastL_ok (callable_fok o20) (fun ρ args args' L hv ha => by
    rw [S19s_eq] at hv; unfold S19 at hv; split at hv
    · cases hv; exact ⟨readsL_plain _ _ _ _ _ _ _ _ _, answersL_walk hmix o20 (callD_sound pHolds hmix tb0_ok l30 5) ha rfl (readsL_plain _ _ _ _ _ _ _ _ _) (reads20_walk _ _ _ _ _ _ _ _ _ _)⟩
    · cases hv) la0_ok)
theorem la21_ok (lr : LastOk P (lastL 19 S19s (lastL 20 S19s la0)) id) (o32 : FOk P 32 c32) (o28 : FOk P 28 c28) (o46 : FOk P 46 c46) : LastOk P la21 id :=
  lastC_ok (callable_fok o28) (S28_ok hmix o32 o28) (lastC_ok (callable_fok o46) (S46_ok hmix o32 o46) lr)
theorem S8_ok (o8 : FOk P 8 c8) : ∀ C, S8 C → C.wf = true → ConOk P 8 C := by
  intro C h _
  cases h with
  | mk L c ro h hn => exact conOk_walk hmix o8 (callD_sound pHolds hmix tb0_ok la0_ok 5) (great_walk _ L c ro h hn)
  | nil => exact conOk_walk hmix o8 (callD_sound pHolds hmix tb0_ok la0_ok 5) (g_nil _)
omit hmix in
theorem tbV_ok (o41 : FOk P 41 c41) (o51 : FOk P 51 c51) (o58 : FOk P 58 c58) (o32 : FOk P 32 c32) (o44 : FOk P 44 c44) (o62 : FOk P 62 c62) (o45 : FOk P 45 c45) : TabOk P tbV := by
  intro f af h
  unfold tbV at h
  cases e1 : Nat.beq f 41 with
  | true => rw [e1] at h; cases h; rw [Nat.eq_of_beq_eq_true e1]; exact o41
  | false =>
  cases e2 : Nat.beq f 51 with
  | true => rw [e1, e2] at h; cases h; rw [Nat.eq_of_beq_eq_true e2]; exact o51
  | false =>
  cases e3 : Nat.beq f 58 with
  | true => rw [e1, e2, e3] at h; cases h; rw [Nat.eq_of_beq_eq_true e3]; exact o58
  | false =>
  cases e4 : Nat.beq f 32 with
  | true => rw [e1, e2, e3, e4] at h; cases h; rw [Nat.eq_of_beq_eq_true e4]; exact o32
  | false =>
  cases e5 : Nat.beq f 44 with
  | true => rw [e1, e2, e3, e4, e5] at h; cases h; rw [Nat.eq_of_beq_eq_true e5]; exact o44
  | false =>
  cases e6 : Nat.beq f 62 with
  | true => rw [e1, e2, e3, e4, e5, e6] at h; cases h; rw [Nat.eq_of_beq_eq_true e6]; exact o62
  | false =>
  cases e7 : Nat.beq f 45 with
  | true => rw [e1, e2, e3, e4, e5, e6, e7] at h; cases h; rw [Nat.eq_of_beq_eq_true e7]; exact o45
  | false => rw [e1, e2, e3, e4, e5, e6, e7] at h; cases h
theorem S21_ok (tv : TabOk P tbV) (l21 : LastOk P la21 id) (o21 : FOk P 21 c21) : ∀ C, S21 C → C.wf = true → ConOk P 21 C := by
  intro C h _
  cases h with
  | mk l m r s b0 b1 b2 b3 x L c ro =>
    refine conOk_walk hmix o21 (callD_sound pHolds hmix tv l21 6) ?_
    rcases reads_cases l m r s x b0 b1 b2 b3 with ⟨e, he, h19, hv⟩ | ⟨xs, x1, x3, h19, hv⟩
    · rw [hv L]; exact v21_e _ l m r s x b0 b1 b2 b3 L c ro e he h19
    · rw [hv L]; exact val21_in _ l m r s x b0 b1 b2 b3 L c ro xs x1 x3 h19
  | nil l m r s b0 b1 b2 b3 x =>
    refine conOk_walk hmix o21 (callD_sound pHolds hmix tv l21 6) ?_
    rcases reads_cases l m r s x b0 b1 b2 b3 with ⟨e, he, h19, hv⟩ | ⟨xs, x1, x3, h19, hv⟩
    · rw [hv []]; exact v210_e _ l m r s x b0 b1 b2 b3 e he h19
    · rw [hv []]; exact val21_nil _ l m r s x b0 b1 b2 b3 xs x1 x3 h19
theorem S22_ok (tv : TabOk P tbV) (l21 : LastOk P la21 id) (o22 : FOk P 22 c22) : ∀ C, S21 C → C.wf = true → ConOk P 22 C := by
  intro C h _
  cases h with
  | mk l m r s b0 b1 b2 b3 x L c ro =>
    refine conOk_walk hmix o22 (callD_sound pHolds hmix tv l21 6) ?_
    rcases reads_cases l m r s x b0 b1 b2 b3 with ⟨e, he, h19, hv⟩ | ⟨xs, x1, x3, h19, hv⟩
    · rw [hv L]; exact v22_e _ l m r s x b0 b1 b2 b3 L c ro e he h19
    · rw [hv L]; exact val22_in _ l m r s x b0 b1 b2 b3 L c ro xs x1 x3 h19
  | nil l m r s b0 b1 b2 b3 x =>
    refine conOk_walk hmix o22 (callD_sound pHolds hmix tv l21 6) ?_
    rcases reads_cases l m r s x b0 b1 b2 b3 with ⟨e, he, h19, hv⟩ | ⟨xs, x1, x3, h19, hv⟩
    · rw [hv []]; exact v220_e _ l m r s x b0 b1 b2 b3 e he h19
    · rw [hv []]; exact val22_nil _ l m r s x b0 b1 b2 b3 xs x1 x3 h19
end

end Go.Proofs.Ytjikaankdnmabaa
